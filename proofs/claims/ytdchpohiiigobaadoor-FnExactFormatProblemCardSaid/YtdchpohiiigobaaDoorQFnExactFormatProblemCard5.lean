/- FnExactFormatProblemCard: what its proof needs, put together by this session's program wip/merge.py out of the texts that wip/xp.py printed and of this session's own. -/
import Derived.Test.YtdchpohiiigobaaDoorQFnExactFormatProblemCard4
import Derived.ChangeArms
import Derived.ChangeReads
import Derived.DataReads
import Derived.DataElems
import Derived.Lib.Strings
import Derived.Lib.Bytealg
set_option linter.unusedVariables false
set_option linter.unusedSimpArgs false
set_option linter.unusedSectionVars false
set_option maxHeartbeats 8000000
set_option maxRecDepth 100000
namespace Go.Proofs.YtdchpohiiigobaaDoor.A
open Go.RowKit YtdchpohiiigobaaDoor.Ext YtdchpohiiigobaaDoorW.PrintWords YtdchpohiiigobaaDoorW.PrintLast YtdchpohiiigobaaDoorW.PrintMore
attribute [local go_sem] max2_int min2_int max_two min_two max_three min_three max_four min_four
def impl_FormatConstraint.l0:Nat→List ByteArray→List Int→Int→Int→Option (ByteArray)
 | 0,_,_,_,_=>none
 | k+1,x3,x58,x59,x60=>if x60 < x59 then (if 0≤x60 then (if x60 < (x58.length:Int) then ((impl_FormatInt.f (rd x58 x60)).bind fun t8024=>((some (([t8024]:List ByteArray):List ByteArray)).bind fun y8025=>(if x3.length+y8025.length < 8796093022208 then (impl_FormatConstraint.l0 k (x3 ++ y8025) x58 x59 (wrap64 (x60+1))) else (none)))) else (none)) else (none)) else ((impl_Join.f k x3 (⟨#[32]⟩:ByteArray)).bind fun t8031=>(some t8031))
def impl_FormatConstraint.f (k:Nat) (a0_0:Int) (a0_1:ByteArray) (a0_2:ByteArray) (a0_3:Int) (a0_4:ByteArray) (l0_5:List (S32)) (l0_6:List Int) (a0_7:Int):Option (ByteArray):=(impl_IsValidConstraint.f k a0_0 a0_1 a0_2 a0_3 a0_4 l0_5 l0_6 a0_7).bind fun t8002=>(if t8002=true then (if a0_0=1 then ((impl_orDash.f a0_1).bind fun t8003=>(if t8003.size+3≤9223372036854775807 then ((impl_orDash.f a0_2).bind fun t8004=>(if (t8003 ++ (⟨#[32,61,32]⟩:ByteArray)).size+t8004.size≤9223372036854775807 then (some ((t8003 ++ (⟨#[32,61,32]⟩:ByteArray)) ++ t8004)) else (none))) else (none))) else (if a0_0=2 then ((impl_orDash.f a0_1).bind fun t8005=>(if t8005.size+4≤9223372036854775807 then ((impl_orDash.f a0_2).bind fun t8006=>(if (t8005 ++ (⟨#[32,33,61,32]⟩:ByteArray)).size+t8006.size≤9223372036854775807 then (some ((t8005 ++ (⟨#[32,33,61,32]⟩:ByteArray)) ++ t8006)) else (none))) else (none))) else (if a0_0=3 then ((impl_orDash.f a0_1).bind fun t8007=>(if t8007.size+4≤9223372036854775807 then ((impl_FormatRegex.f k a0_3 a0_4 l0_5).bind fun t8008=>(if (t8007 ++ (⟨#[32,105,110,32]⟩:ByteArray)).size+t8008.size≤9223372036854775807 then (some ((t8007 ++ (⟨#[32,105,110,32]⟩:ByteArray)) ++ t8008)) else (none))) else (none))) else (if a0_0=4 then ((impl_orDash.f a0_1).bind fun t8009=>(if t8009.size+5≤9223372036854775807 then ((impl_FormatRegex.f k a0_3 a0_4 l0_5).bind fun t8010=>(if (t8009 ++ (⟨#[32,111,117,116,32]⟩:ByteArray)).size+t8010.size≤9223372036854775807 then (some ((t8009 ++ (⟨#[32,111,117,116,32]⟩:ByteArray)) ++ t8010)) else (none))) else (none))) else ((slices_Clone_int_int.f l0_6).bind fun t8014=>((some (([a0_7]:List Int):List Int)).bind fun y8017=>(if t8014.length+y8017.length < 17592186044416 then ((some (t8014 ++ y8017:List Int)).bind fun y8020=>(impl_FormatConstraint.l0 k (([(⟨#[108,101,110]⟩:ByteArray)]:List ByteArray)) y8020 (y8020.length:Int) 0)) else (none)))))))) else (some (⟨#[]⟩:ByteArray)))
theorem impl_FormatConstraint.mono_l:∀ k,(∀ y0 y1 y2 y3,LeO (impl_FormatConstraint.l0 k y0 y1 y2 y3) (impl_FormatConstraint.l0 (k+1) y0 y1 y2 y3))
 | 0=>fun _ _ _ _ r h=>by simp [impl_FormatConstraint.l0] at h
 | k+1=>by
  have ih0:=impl_FormatConstraint.mono_l k
  ·intro y0 y1 y2 y3
   unfold impl_FormatConstraint.l0
   repeat' first
   | with_reducible first|exact ih0 _ _ _ _|exact impl_FormatRegex.mono _ _ _ _|exact impl_IsValidConstraint.mono _ _ _ _ _ _ _ _ _|exact impl_Join.mono _ _ _|exact LeO.refl _|exact LeO.none _|refine LeO.ite ?_ ?_|refine LeO.bind ?_ (fun _=>?_)
theorem impl_FormatConstraint.mono:∀ a0 a1 a2 a3 a4 a5 a6 a7 k,LeO (impl_FormatConstraint.f k a0 a1 a2 a3 a4 a5 a6 a7) (impl_FormatConstraint.f (k+1) a0 a1 a2 a3 a4 a5 a6 a7):=by
 intro a0 a1 a2 a3 a4 a5 a6 a7 k
 have ih0:=impl_FormatConstraint.mono_l k
 unfold impl_FormatConstraint.f
 repeat' first
  | with_reducible first|exact ih0 _ _ _ _|exact impl_FormatRegex.mono _ _ _ _|exact impl_IsValidConstraint.mono _ _ _ _ _ _ _ _ _|exact impl_Join.mono _ _ _|exact LeO.refl _|exact LeO.none _|refine LeO.ite ?_ ?_|refine LeO.bind ?_ (fun _=>?_)
def impl_FormatConstraint.T5:Bool × List (List Nat × List Nat):=(true,[([],[]),([0],[0]),([1],[1]),([2],[2]),([],[]),([4],[4]),([5,2],[5]),([3,6],[3,6]),([7,6,0,1,2,3,4,5,6,7],[7])])
def impl_FormatConstraint.B5:List Nat:=[0,1,3,7,0,16,55,127,255]
theorem impl_FormatConstraint.tab5:rtab .any (opsOf Tryd.f8 5)=impl_FormatConstraint.T5:=by kernel_rfl
theorem impl_FormatConstraint.bits5:waitsOk impl_FormatConstraint.T5.2 impl_FormatConstraint.B5=true:=by kernel_rfl
def impl_FormatConstraint.T7:Bool × List (List Nat × List Nat):=(true,[([],[]),([0],[0]),([1],[1]),([2],[2]),([],[]),([4],[4]),([5,2],[5]),([3,6],[3,6]),([7,6,0,1,2,3,4,5,6,7],[7])])
def impl_FormatConstraint.B7:List Nat:=[0,1,3,7,0,16,55,127,255]
theorem impl_FormatConstraint.tab7:rtab .any (opsOf Tryd.f8 7)=impl_FormatConstraint.T7:=by kernel_rfl
theorem impl_FormatConstraint.bits7:waitsOk impl_FormatConstraint.T7.2 impl_FormatConstraint.B7=true:=by kernel_rfl
def impl_FormatConstraint.T9:Bool × List (List Nat × List Nat):=(true,[([],[]),([0],[0]),([1],[1]),([2],[2]),([],[]),([4],[4]),([5,2],[5]),([3,6],[3,6]),([7,6,0,1,2,3,4,5,6,7],[7])])
def impl_FormatConstraint.B9:List Nat:=[0,1,3,7,0,16,55,127,255]
theorem impl_FormatConstraint.tab9:rtab .any (opsOf Tryd.f8 9)=impl_FormatConstraint.T9:=by kernel_rfl
theorem impl_FormatConstraint.bits9:waitsOk impl_FormatConstraint.T9.2 impl_FormatConstraint.B9=true:=by kernel_rfl
def impl_FormatConstraint.T11:Bool × List (List Nat × List Nat):=(true,[([],[]),([0],[0]),([1],[1]),([2],[2]),([],[]),([4],[4]),([5,2],[5]),([3,6],[3,6]),([7,6,0,1,2,3,4,5,6,7],[7])])
def impl_FormatConstraint.B11:List Nat:=[0,1,3,7,0,16,55,127,255]
theorem impl_FormatConstraint.tab11:rtab .any (opsOf Tryd.f8 11)=impl_FormatConstraint.T11:=by kernel_rfl
theorem impl_FormatConstraint.bits11:waitsOk impl_FormatConstraint.T11.2 impl_FormatConstraint.B11=true:=by kernel_rfl
def impl_FormatConstraint.T13:Bool × List (List Nat × List Nat):=(true,[([],[]),([0],[0]),([1],[1]),([],[]),([3],[3]),([4],[4]),([2,5,2],[2,5]),([6],[6]),([],[])])
def impl_FormatConstraint.B13:List Nat:=[0,1,3,0,8,24,63,127,0]
theorem impl_FormatConstraint.tab13:rtab .any (opsOf Tryd.f8 13)=impl_FormatConstraint.T13:=by kernel_rfl
theorem impl_FormatConstraint.bits13:waitsOk impl_FormatConstraint.T13.2 impl_FormatConstraint.B13=true:=by kernel_rfl
theorem impl_FormatConstraint.calls (k:Nat) (a0_0:Int) (a0_1:ByteArray) (a0_2:ByteArray) (a0_3:Int) (a0_4:ByteArray) (A0_5:Option Addr) (c0_5:Nat) (l0_5:List (S32)) (A0_6:Option Addr) (c0_6:Nat) (l0_6:List Int) (a0_7:Int) (r:ByteArray) (w:World) (hr0_5:Kd.C k32 w A0_5 l0_5.length l0_5) (hc0_5:l0_5.length≤c0_5) (hr0_6:Kd.C (Kd.int .i64) w A0_6 l0_6.length l0_6) (hc0_6:l0_6.length≤c0_6) (h:impl_FormatConstraint.f k a0_0 a0_1 a0_2 a0_3 a0_4 l0_5 l0_6 a0_7=some r) (hTb:Tb w) :
  Calls Tryd.prog 8 #[.agg #[.int .i64 a0_0,.string a0_1,.string a0_2,.int .i64 a0_3,.string a0_4,.slice A0_5 l0_5.length c0_5,.slice A0_6 l0_6.length c0_6,.int .i64 a0_7]] w fun e w'=>e = .returned (.string r)∧Below w.heap.size w w':=by
 have HTb:=zk hTb
 clear hTb
 have hu34:=Tryd.underlying34
 have hu32:=Tryd.underlying32
 have HR0_5:=zk hr0_5
 have HC0_5:=zk hc0_5
 clear hr0_5 hc0_5
 have HR0_6:=zk hr0_6
 have HC0_6:=zk hc0_6
 clear hr0_6 hc0_6
 have HB:=zk (Below.refl w.heap.size w)
 have H:((impl_IsValidConstraint.f k a0_0 a0_1 a0_2 a0_3 a0_4 l0_5 l0_6 a0_7).bind fun t8002=>(if t8002=true then (if a0_0=1 then ((impl_orDash.f a0_1).bind fun t8003=>(if t8003.size+3≤9223372036854775807 then ((impl_orDash.f a0_2).bind fun t8004=>(if (t8003 ++ (⟨#[32,61,32]⟩:ByteArray)).size+t8004.size≤9223372036854775807 then (some ((t8003 ++ (⟨#[32,61,32]⟩:ByteArray)) ++ t8004)) else (none))) else (none))) else (if a0_0=2 then ((impl_orDash.f a0_1).bind fun t8005=>(if t8005.size+4≤9223372036854775807 then ((impl_orDash.f a0_2).bind fun t8006=>(if (t8005 ++ (⟨#[32,33,61,32]⟩:ByteArray)).size+t8006.size≤9223372036854775807 then (some ((t8005 ++ (⟨#[32,33,61,32]⟩:ByteArray)) ++ t8006)) else (none))) else (none))) else (if a0_0=3 then ((impl_orDash.f a0_1).bind fun t8007=>(if t8007.size+4≤9223372036854775807 then ((impl_FormatRegex.f k a0_3 a0_4 l0_5).bind fun t8008=>(if (t8007 ++ (⟨#[32,105,110,32]⟩:ByteArray)).size+t8008.size≤9223372036854775807 then (some ((t8007 ++ (⟨#[32,105,110,32]⟩:ByteArray)) ++ t8008)) else (none))) else (none))) else (if a0_0=4 then ((impl_orDash.f a0_1).bind fun t8009=>(if t8009.size+5≤9223372036854775807 then ((impl_FormatRegex.f k a0_3 a0_4 l0_5).bind fun t8010=>(if (t8009 ++ (⟨#[32,111,117,116,32]⟩:ByteArray)).size+t8010.size≤9223372036854775807 then (some ((t8009 ++ (⟨#[32,111,117,116,32]⟩:ByteArray)) ++ t8010)) else (none))) else (none))) else ((slices_Clone_int_int.f l0_6).bind fun t8014=>((some (([a0_7]:List Int):List Int)).bind fun y8017=>(if t8014.length+y8017.length < 17592186044416 then ((some (t8014 ++ y8017:List Int)).bind fun y8020=>(impl_FormatConstraint.l0 k (([(⟨#[108,101,110]⟩:ByteArray)]:List ByteArray)) y8020 (y8020.length:Int) 0)) else (none)))))))) else (some (⟨#[]⟩:ByteArray))))=some r:=h
 clear h
 replace H:=zo H
 obtain ⟨t8002,A20,H⟩:=H
 replace H:(if t8002=true then (if a0_0=1 then ((impl_orDash.f a0_1).bind fun t8003=>(if t8003.size+3≤9223372036854775807 then ((impl_orDash.f a0_2).bind fun t8004=>(if (t8003 ++ (⟨#[32,61,32]⟩:ByteArray)).size+t8004.size≤9223372036854775807 then (some ((t8003 ++ (⟨#[32,61,32]⟩:ByteArray)) ++ t8004)) else (none))) else (none))) else (if a0_0=2 then ((impl_orDash.f a0_1).bind fun t8005=>(if t8005.size+4≤9223372036854775807 then ((impl_orDash.f a0_2).bind fun t8006=>(if (t8005 ++ (⟨#[32,33,61,32]⟩:ByteArray)).size+t8006.size≤9223372036854775807 then (some ((t8005 ++ (⟨#[32,33,61,32]⟩:ByteArray)) ++ t8006)) else (none))) else (none))) else (if a0_0=3 then ((impl_orDash.f a0_1).bind fun t8007=>(if t8007.size+4≤9223372036854775807 then ((impl_FormatRegex.f k a0_3 a0_4 l0_5).bind fun t8008=>(if (t8007 ++ (⟨#[32,105,110,32]⟩:ByteArray)).size+t8008.size≤9223372036854775807 then (some ((t8007 ++ (⟨#[32,105,110,32]⟩:ByteArray)) ++ t8008)) else (none))) else (none))) else (if a0_0=4 then ((impl_orDash.f a0_1).bind fun t8009=>(if t8009.size+5≤9223372036854775807 then ((impl_FormatRegex.f k a0_3 a0_4 l0_5).bind fun t8010=>(if (t8009 ++ (⟨#[32,111,117,116,32]⟩:ByteArray)).size+t8010.size≤9223372036854775807 then (some ((t8009 ++ (⟨#[32,111,117,116,32]⟩:ByteArray)) ++ t8010)) else (none))) else (none))) else ((slices_Clone_int_int.f l0_6).bind fun t8014=>((some (([a0_7]:List Int):List Int)).bind fun y8017=>(if t8014.length+y8017.length < 17592186044416 then ((some (t8014 ++ y8017:List Int)).bind fun y8020=>(impl_FormatConstraint.l0 k (([(⟨#[108,101,110]⟩:ByteArray)]:List ByteArray)) y8020 (y8020.length:Int) 0)) else (none)))))))) else (some (⟨#[]⟩:ByteArray)))=some r:=H
 have A2:=zk A20
 clear A20
 by_cases c3:t8002=true
 subst c3
 have H1:(if a0_0=1 then ((impl_orDash.f a0_1).bind fun t8003=>(if t8003.size+3≤9223372036854775807 then ((impl_orDash.f a0_2).bind fun t8004=>(if (t8003 ++ (⟨#[32,61,32]⟩:ByteArray)).size+t8004.size≤9223372036854775807 then (some ((t8003 ++ (⟨#[32,61,32]⟩:ByteArray)) ++ t8004)) else (none))) else (none))) else (if a0_0=2 then ((impl_orDash.f a0_1).bind fun t8005=>(if t8005.size+4≤9223372036854775807 then ((impl_orDash.f a0_2).bind fun t8006=>(if (t8005 ++ (⟨#[32,33,61,32]⟩:ByteArray)).size+t8006.size≤9223372036854775807 then (some ((t8005 ++ (⟨#[32,33,61,32]⟩:ByteArray)) ++ t8006)) else (none))) else (none))) else (if a0_0=3 then ((impl_orDash.f a0_1).bind fun t8007=>(if t8007.size+4≤9223372036854775807 then ((impl_FormatRegex.f k a0_3 a0_4 l0_5).bind fun t8008=>(if (t8007 ++ (⟨#[32,105,110,32]⟩:ByteArray)).size+t8008.size≤9223372036854775807 then (some ((t8007 ++ (⟨#[32,105,110,32]⟩:ByteArray)) ++ t8008)) else (none))) else (none))) else (if a0_0=4 then ((impl_orDash.f a0_1).bind fun t8009=>(if t8009.size+5≤9223372036854775807 then ((impl_FormatRegex.f k a0_3 a0_4 l0_5).bind fun t8010=>(if (t8009 ++ (⟨#[32,111,117,116,32]⟩:ByteArray)).size+t8010.size≤9223372036854775807 then (some ((t8009 ++ (⟨#[32,111,117,116,32]⟩:ByteArray)) ++ t8010)) else (none))) else (none))) else ((slices_Clone_int_int.f l0_6).bind fun t8014=>((some (([a0_7]:List Int):List Int)).bind fun y8017=>(if t8014.length+y8017.length < 17592186044416 then ((some (t8014 ++ y8017:List Int)).bind fun y8020=>(impl_FormatConstraint.l0 k (([(⟨#[108,101,110]⟩:ByteArray)]:List ByteArray)) y8020 (y8020.length:Int) 0)) else (none))))))))=some r:=by rw [if_pos rfl] at H;exact H
 clear H
 have H:=H1
 clear H1
 by_cases c4:a0_0=1
 rw [if_pos c4] at H
 have c4b0:(a0_0 == 1)=true:=beq_iff_eq.mpr c4
 have c4b1:(a0_0 != 1)=false:=bne_eq_false_iff_eq.mpr c4
 clear c4
 replace H:=zo H
 obtain ⟨t8003,A50,H⟩:=H
 replace H:(if t8003.size+3≤9223372036854775807 then ((impl_orDash.f a0_2).bind fun t8004=>(if (t8003 ++ (⟨#[32,61,32]⟩:ByteArray)).size+t8004.size≤9223372036854775807 then (some ((t8003 ++ (⟨#[32,61,32]⟩:ByteArray)) ++ t8004)) else (none))) else (none))=some r:=H
 have A5:=zk A50
 clear A50
 by_cases c6:t8003.size+3≤9223372036854775807
 rw [if_pos c6] at H
 have c6z:=c6
 try simp at c6z
 try replace c6z:=eq_false (Nat.not_lt.2 c6z)
 have c6b0:=eq_true c6
 have c6b1:decide (t8003.size+3≤9223372036854775807)=true:=decide_eq_true c6
 try have c6b2:(9223372036854775807 < t8003.size+3)=False:=eq_false (Nat.not_lt.2 c6)
 replace H:=zo H
 obtain ⟨t8004,A70,H⟩:=H
 replace H:(if (t8003 ++ (⟨#[32,61,32]⟩:ByteArray)).size+t8004.size≤9223372036854775807 then (some ((t8003 ++ (⟨#[32,61,32]⟩:ByteArray)) ++ t8004)) else (none))=some r:=H
 have A7:=zk A70
 clear A70
 by_cases c8:(t8003 ++ (⟨#[32,61,32]⟩:ByteArray)).size+t8004.size≤9223372036854775807
 ·rw [if_pos c8] at H
  have c8z:=c8
  try simp at c8z
  try replace c8z:=eq_false (Nat.not_lt.2 c8z)
  have c8b0:=eq_true c8
  have c8b1:decide ((t8003 ++ (⟨#[32,61,32]⟩:ByteArray)).size+t8004.size≤9223372036854775807)=true:=decide_eq_true c8
  try have c8y:(9223372036854775807 < t8003.size+3+t8004.size)=False:=eq_false (by have q_:=c8;simp only [ByteArray.size_append,show (⟨#[32,61,32]⟩:ByteArray).size=3 from rfl] at q_;omega)
  try have c8b2:(9223372036854775807 < (t8003 ++ (⟨#[32,61,32]⟩:ByteArray)).size+t8004.size)=False:=eq_false (Nat.not_lt.2 c8)
  obtain rfl:=zi H
  go_enter Tryd.func8,Tryd.ntmps8
  try go_wp2_with (first|((with_reducible refine gate_dst (N:=1) rfl ?_);refine zE (N:=1) (cs:=#[.int .i64 a0_0,.string a0_1,.string a0_2,.int .i64 a0_3,.string a0_4,.slice A0_5 l0_5.length c0_5,.slice A0_6 l0_6.length c0_6,.int .i64 a0_7]) (t:=34) ?_;intro gb8001 hg w9 hbox hb;have n0_:=zk (below_step za2 hb);have n1_:=zk (hbox);have n2_:=zk (zs (w:=w) hg za2);have n3_:=zk (zs (w:=w) hg za2);clear HB;have HB:=n0_;have BK8001:=n1_;have GW8001:=n2_;have GE8001:=n3_;clear n0_ n1_ n2_ n3_;clear hb hbox hg;obtain ⟨hcz10_0,hcz10_1,hcz10_2,hcz10_3,hcz10_4,hcz10_5,hcz10_6,hcz10_7,hfz10_0,hfz10_1,hfz10_2,hfz10_3,hfz10_4,hfz10_5,hfz10_6,hfz10_7⟩:=blk8 BK8001.out)|((with_reducible refine gate_callee (f:=23) rfl ?_);refine goesL_ (some 7) rfl rfl Tryd.func23 (by kernel_rfl) rfl #[.agg #[.int .i64 a0_0,.string a0_1,.string a0_2,.int .i64 a0_3,.string a0_4,.slice A0_5 l0_5.length c0_5,.slice A0_6 l0_6.length c0_6,.int .i64 a0_7]] rfl za5 ?_;(with_reducible refine (impl_IsValidConstraint.calls k a0_0 a0_1 a0_2 a0_3 a0_4 _ _ l0_5 _ _ l0_6 a0_7 _ _ ?side1 ?side2 ?side3 ?side4 A2.out).mono ?_);(case side1=>repeat (first|exact (Kd.C_below HR0_5.out HB.out)|(with_reducible refine Kd.C_alloc ?_ _)|(with_reducible refine Kd.C_drewN ?_ _)|(with_reducible refine Kd.C_drew ?_)));(case side2=>exact HC0_5.out);(case side3=>repeat (first|exact (Kd.C_below HR0_6.out HB.out)|(with_reducible refine Kd.C_alloc ?_ _)|(with_reducible refine Kd.C_drewN ?_ _)|(with_reducible refine Kd.C_drew ?_)));(case side4=>exact HC0_6.out);rintro e w11 ⟨rfl,hb⟩;refine ⟨_,rfl,?_⟩;have n0_:=zk (zb BK8001.out hb);have n1_:=zk (below_step za2 hb);clear BK8001;clear HB;have BK8001:=n0_;have HB:=n1_;clear n0_ n1_;(try clear hb);(try clear hb2);(try clear hk);(try clear hi);obtain ⟨hcz12_0,hcz12_1,hcz12_2,hcz12_3,hcz12_4,hcz12_5,hcz12_6,hcz12_7,hfz12_0,hfz12_1,hfz12_2,hfz12_3,hfz12_4,hfz12_5,hfz12_6,hfz12_7⟩:=blk8 BK8001.out))
  have n0_:=zk (blk_drew BK8001.out)
  have n1_:=zk (below_drew1 HB.out)
  clear BK8001
  clear HB
  have BK8001:=n0_
  have HB:=n1_
  clear n0_ n1_
  refine start_ (n:=9) (S:=fun w'=>w'.cell? ⟨gb8001,0,none⟩=some (.int .i64 a0_0)∧w'.cell? ⟨gb8001,1,none⟩=some (.string a0_1)∧w'.cell? ⟨gb8001,2,none⟩=some (.string a0_2)∧w'.cell? ⟨gb8001,3,none⟩=some (.int .i64 a0_3)∧w'.cell? ⟨gb8001,4,none⟩=some (.string a0_4)∧w'.cell? ⟨gb8001,5,none⟩=some (.slice A0_5 l0_5.length c0_5)∧w'.cell? ⟨gb8001,6,none⟩=some (.slice A0_6 l0_6.length c0_6)∧w'.cell? ⟨gb8001,7,none⟩=some (.int .i64 a0_7)) (ds:=[]) #[false,false,false,false,false,false,false,false,false] (by kernel_rfl) rfl rfl ⟨(blk_cell BK8001.out 0).trans rfl,(blk_cell BK8001.out 1).trans rfl,(blk_cell BK8001.out 2).trans rfl,(blk_cell BK8001.out 3).trans rfl,(blk_cell BK8001.out 4).trans rfl,(blk_cell BK8001.out 5).trans rfl,(blk_cell BK8001.out 6).trans rfl,(blk_cell BK8001.out 7).trans rfl⟩ (fun hHeld=>?_);refine with_tabW impl_FormatConstraint.tab5 impl_FormatConstraint.bits5 (fun HT_ HW_=>?_)
  generalize w11.drew=w13 at BK8001 HB hHeld ⊢
  refine pure_ (i:=0) (N:=some 13) (v:=?_) (a':=?_) #[true,false,false,false,false,false,false,false,false] rfl rfl (any_of HT_.out (by kernel_rfl)) (fun _ _ _ h=>h) (Or.inl ⟨by rfl,?_⟩) ?_ ?_
  rotate_left
  · intro w'
    go_simp
    exact zr2
  rotate_left
  · simp only [Act.put,zt,zu,zv,i64_w,i32_w]
    rfl
  refine pure_ (i:=4) (N:=some 17) (v:=?_) (a':=?_) #[true,false,false,false,true,false,false,false,false] rfl rfl (any_of HT_.out (by kernel_rfl)) (fun _ _ _ h=>h) (Or.inl ⟨by rfl,?_⟩) ?_ ?_
  rotate_left
  · intro w'
    go_simp
    exact zr2
  rotate_left
  · simp only [Act.put,zt,zu,zv,i64_w,i32_w]
    rfl
  refine take_ (i:=1) (N:=some 14) (v:=?_) (a':=?_) #[true,true,false,false,true,false,false,false,false] rfl rfl (take_ofW HT_.out HW_.out (by kernel_rfl)) (fun _ _ _ h=>h) (Or.inl ⟨by rfl,?_⟩) hHeld ?_ ?_
  rotate_left
  · rintro w' ⟨s0,s1,s2,s3,s4,s5,s6,s7⟩
    go_simp
    exact zr2
  rotate_left
  · simp only [Act.put,zt,zu,zv,i64_w,i32_w]
    rfl
  refine take_ (i:=5) (N:=some 18) (v:=?_) (a':=?_) #[true,true,false,false,true,true,false,false,false] rfl rfl (take_ofW HT_.out HW_.out (by kernel_rfl)) (fun _ _ _ h=>h) (Or.inl ⟨by rfl,?_⟩) hHeld ?_ ?_
  rotate_left
  · rintro w' ⟨s0,s1,s2,s3,s4,s5,s6,s7⟩
    go_simp
    exact zr2
  rotate_left
  · simp only [Act.put,zt,zu,zv,i64_w,i32_w]
    rfl
  refine one_ (i:=2) (N:=some 15) #[true,true,true,false,true,true,false,false,false] rfl rfl (one_of HT_.out (by kernel_rfl)) (by decide) (fun K hK=>?_)
  refine goes_ Tryd.func24 (by kernel_rfl) rfl #[.string a0_1] (by rfl) rfl rfl za5 ?_
  with_reducible refine (impl_orDash.calls a0_1 t8003 _ A5.out).mono ?_
  rintro e w' ⟨rfl,⟨nd,rfl⟩⟩
  refine ⟨_,rfl,?_⟩
  refine hK.out _ _ ⟨(blk_cell BK8001.out 0).trans rfl,(blk_cell BK8001.out 1).trans rfl,(blk_cell BK8001.out 2).trans rfl,(blk_cell BK8001.out 3).trans rfl,(blk_cell BK8001.out 4).trans rfl,(blk_cell BK8001.out 5).trans rfl,(blk_cell BK8001.out 6).trans rfl,(blk_cell BK8001.out 7).trans rfl⟩ (fun hHeld=>?_)
  clear hK K
  refine norm_ (a':=?_) ?_ ?_
  rotate_left
  · show Act.put _ (some 15) _=_
    simp only [Act.put,zt,zu,zv,i64_w,i32_w]
    rfl
  refine pure_ (i:=3) (N:=some 16) (v:=?_) (a':=?_) #[true,true,true,true,true,true,false,false,false] rfl rfl (any_of HT_.out (by kernel_rfl)) (fun _ _ _ h=>h) (Or.inl ⟨by rfl,?_⟩) ?_ ?_
  rotate_left
  · intro w'
    go_simp
    exact zr2
  rotate_left
  · simp only [Act.put,zt,zu,zv,i64_w,i32_w]
    rfl
  refine one_ (i:=6) (N:=some 19) #[true,true,true,true,true,true,true,false,false] rfl rfl (one_of HT_.out (by kernel_rfl)) (by decide) (fun K hK=>?_)
  refine goes_ Tryd.func24 (by kernel_rfl) rfl #[.string a0_2] (by rfl) rfl rfl za5 ?_
  with_reducible refine (impl_orDash.calls a0_2 t8004 _ A7.out).mono ?_
  rintro e w' ⟨rfl,⟨nd,rfl⟩⟩
  refine ⟨_,rfl,?_⟩
  refine hK.out _ _ ⟨(blk_cell BK8001.out 0).trans rfl,(blk_cell BK8001.out 1).trans rfl,(blk_cell BK8001.out 2).trans rfl,(blk_cell BK8001.out 3).trans rfl,(blk_cell BK8001.out 4).trans rfl,(blk_cell BK8001.out 5).trans rfl,(blk_cell BK8001.out 6).trans rfl,(blk_cell BK8001.out 7).trans rfl⟩ (fun hHeld=>?_)
  clear hK K
  refine norm_ (a':=?_) ?_ ?_
  rotate_left
  · show Act.put _ (some 19) _=_
    simp only [Act.put,zt,zu,zv,i64_w,i32_w]
    rfl
  refine pure_ (i:=7) (N:=some 20) (v:=?_) (a':=?_) #[true,true,true,true,true,true,true,true,false] rfl rfl (any_of HT_.out (by kernel_rfl)) (fun _ _ _ h=>h) (Or.inl ⟨by rfl,?_⟩) ?_ ?_
  rotate_left
  · intro w'
    go_simp
    exact zr2
  rotate_left
  · simp only [Act.put,zt,zu,zv,i64_w,i32_w]
    rfl
  refine pure_ (i:=8) (N:=some 2) (v:=?_) (a':=?_) #[true,true,true,true,true,true,true,true,true] rfl rfl (any_of HT_.out (by kernel_rfl)) (fun _ _ _ h=>h) (Or.inl ⟨by rfl,?_⟩) ?_ ?_
  rotate_left
  · intro w'
    go_simp
    exact zr2
  rotate_left
  · simp only [Act.put,zt,zu,zv,i64_w,i32_w]
    rfl
  refine done_ (done_of HT_.out (by kernel_rfl)) ?_
  try go_wp2
  go_ret
  exact ⟨za6,za2⟩
 ·rw [if_neg c8] at H
  exact absurd H (by simp)
 ·rw [if_neg c6] at H
  exact absurd H (by simp)
 rw [if_neg c4] at H
 have c4b0:(a0_0 == 1)=false:=beq_eq_false_iff_ne.mpr c4
 have c4b1:(a0_0 != 1)=true:=bne_iff_ne.mpr c4
 by_cases c14:a0_0=2
 rw [if_pos c14] at H
 have c14b0:(a0_0 == 2)=true:=beq_iff_eq.mpr c14
 have c14b1:(a0_0 != 2)=false:=bne_eq_false_iff_eq.mpr c14
 clear c14
 replace H:=zo H
 obtain ⟨t8005,A150,H⟩:=H
 replace H:(if t8005.size+4≤9223372036854775807 then ((impl_orDash.f a0_2).bind fun t8006=>(if (t8005 ++ (⟨#[32,33,61,32]⟩:ByteArray)).size+t8006.size≤9223372036854775807 then (some ((t8005 ++ (⟨#[32,33,61,32]⟩:ByteArray)) ++ t8006)) else (none))) else (none))=some r:=H
 have A15:=zk A150
 clear A150
 by_cases c16:t8005.size+4≤9223372036854775807
 rw [if_pos c16] at H
 have c16z:=c16
 try simp at c16z
 try replace c16z:=eq_false (Nat.not_lt.2 c16z)
 have c16b0:=eq_true c16
 have c16b1:decide (t8005.size+4≤9223372036854775807)=true:=decide_eq_true c16
 try have c16b2:(9223372036854775807 < t8005.size+4)=False:=eq_false (Nat.not_lt.2 c16)
 replace H:=zo H
 obtain ⟨t8006,A170,H⟩:=H
 replace H:(if (t8005 ++ (⟨#[32,33,61,32]⟩:ByteArray)).size+t8006.size≤9223372036854775807 then (some ((t8005 ++ (⟨#[32,33,61,32]⟩:ByteArray)) ++ t8006)) else (none))=some r:=H
 have A17:=zk A170
 clear A170
 by_cases c18:(t8005 ++ (⟨#[32,33,61,32]⟩:ByteArray)).size+t8006.size≤9223372036854775807
 ·rw [if_pos c18] at H
  have c18z:=c18
  try simp at c18z
  try replace c18z:=eq_false (Nat.not_lt.2 c18z)
  have c18b0:=eq_true c18
  have c18b1:decide ((t8005 ++ (⟨#[32,33,61,32]⟩:ByteArray)).size+t8006.size≤9223372036854775807)=true:=decide_eq_true c18
  try have c18y:(9223372036854775807 < t8005.size+4+t8006.size)=False:=eq_false (by have q_:=c18;simp only [ByteArray.size_append,show (⟨#[32,33,61,32]⟩:ByteArray).size=4 from rfl] at q_;omega)
  try have c18b2:(9223372036854775807 < (t8005 ++ (⟨#[32,33,61,32]⟩:ByteArray)).size+t8006.size)=False:=eq_false (Nat.not_lt.2 c18)
  obtain rfl:=zi H
  go_enter Tryd.func8,Tryd.ntmps8
  try go_wp2_with (first|((with_reducible refine gate_dst (N:=1) rfl ?_);refine zE (N:=1) (cs:=#[.int .i64 a0_0,.string a0_1,.string a0_2,.int .i64 a0_3,.string a0_4,.slice A0_5 l0_5.length c0_5,.slice A0_6 l0_6.length c0_6,.int .i64 a0_7]) (t:=34) ?_;intro gb8001 hg w19 hbox hb;have n0_:=zk (below_step za2 hb);have n1_:=zk (hbox);have n2_:=zk (zs (w:=w) hg za2);have n3_:=zk (zs (w:=w) hg za2);clear HB;have HB:=n0_;have BK8001:=n1_;have GW8001:=n2_;have GE8001:=n3_;clear n0_ n1_ n2_ n3_;clear hb hbox hg;obtain ⟨hcz20_0,hcz20_1,hcz20_2,hcz20_3,hcz20_4,hcz20_5,hcz20_6,hcz20_7,hfz20_0,hfz20_1,hfz20_2,hfz20_3,hfz20_4,hfz20_5,hfz20_6,hfz20_7⟩:=blk8 BK8001.out)|((with_reducible refine gate_callee (f:=23) rfl ?_);refine goesL_ (some 7) rfl rfl Tryd.func23 (by kernel_rfl) rfl #[.agg #[.int .i64 a0_0,.string a0_1,.string a0_2,.int .i64 a0_3,.string a0_4,.slice A0_5 l0_5.length c0_5,.slice A0_6 l0_6.length c0_6,.int .i64 a0_7]] rfl za5 ?_;(with_reducible refine (impl_IsValidConstraint.calls k a0_0 a0_1 a0_2 a0_3 a0_4 _ _ l0_5 _ _ l0_6 a0_7 _ _ ?side1 ?side2 ?side3 ?side4 A2.out).mono ?_);(case side1=>repeat (first|exact (Kd.C_below HR0_5.out HB.out)|(with_reducible refine Kd.C_alloc ?_ _)|(with_reducible refine Kd.C_drewN ?_ _)|(with_reducible refine Kd.C_drew ?_)));(case side2=>exact HC0_5.out);(case side3=>repeat (first|exact (Kd.C_below HR0_6.out HB.out)|(with_reducible refine Kd.C_alloc ?_ _)|(with_reducible refine Kd.C_drewN ?_ _)|(with_reducible refine Kd.C_drew ?_)));(case side4=>exact HC0_6.out);rintro e w21 ⟨rfl,hb⟩;refine ⟨_,rfl,?_⟩;have n0_:=zk (zb BK8001.out hb);have n1_:=zk (below_step za2 hb);clear BK8001;clear HB;have BK8001:=n0_;have HB:=n1_;clear n0_ n1_;(try clear hb);(try clear hb2);(try clear hk);(try clear hi);obtain ⟨hcz22_0,hcz22_1,hcz22_2,hcz22_3,hcz22_4,hcz22_5,hcz22_6,hcz22_7,hfz22_0,hfz22_1,hfz22_2,hfz22_3,hfz22_4,hfz22_5,hfz22_6,hfz22_7⟩:=blk8 BK8001.out))
  have n0_:=zk (blk_drew BK8001.out)
  have n1_:=zk (below_drew1 HB.out)
  clear BK8001
  clear HB
  have BK8001:=n0_
  have HB:=n1_
  clear n0_ n1_
  refine start_ (n:=9) (S:=fun w'=>w'.cell? ⟨gb8001,0,none⟩=some (.int .i64 a0_0)∧w'.cell? ⟨gb8001,1,none⟩=some (.string a0_1)∧w'.cell? ⟨gb8001,2,none⟩=some (.string a0_2)∧w'.cell? ⟨gb8001,3,none⟩=some (.int .i64 a0_3)∧w'.cell? ⟨gb8001,4,none⟩=some (.string a0_4)∧w'.cell? ⟨gb8001,5,none⟩=some (.slice A0_5 l0_5.length c0_5)∧w'.cell? ⟨gb8001,6,none⟩=some (.slice A0_6 l0_6.length c0_6)∧w'.cell? ⟨gb8001,7,none⟩=some (.int .i64 a0_7)) (ds:=[]) #[false,false,false,false,false,false,false,false,false] (by kernel_rfl) rfl rfl ⟨(blk_cell BK8001.out 0).trans rfl,(blk_cell BK8001.out 1).trans rfl,(blk_cell BK8001.out 2).trans rfl,(blk_cell BK8001.out 3).trans rfl,(blk_cell BK8001.out 4).trans rfl,(blk_cell BK8001.out 5).trans rfl,(blk_cell BK8001.out 6).trans rfl,(blk_cell BK8001.out 7).trans rfl⟩ (fun hHeld=>?_);refine with_tabW impl_FormatConstraint.tab7 impl_FormatConstraint.bits7 (fun HT_ HW_=>?_)
  generalize w21.drew=w23 at BK8001 HB hHeld ⊢
  refine pure_ (i:=0) (N:=some 23) (v:=?_) (a':=?_) #[true,false,false,false,false,false,false,false,false] rfl rfl (any_of HT_.out (by kernel_rfl)) (fun _ _ _ h=>h) (Or.inl ⟨by rfl,?_⟩) ?_ ?_
  rotate_left
  · intro w'
    go_simp
    exact zr2
  rotate_left
  · simp only [Act.put,zt,zu,zv,i64_w,i32_w]
    rfl
  refine pure_ (i:=4) (N:=some 27) (v:=?_) (a':=?_) #[true,false,false,false,true,false,false,false,false] rfl rfl (any_of HT_.out (by kernel_rfl)) (fun _ _ _ h=>h) (Or.inl ⟨by rfl,?_⟩) ?_ ?_
  rotate_left
  · intro w'
    go_simp
    exact zr2
  rotate_left
  · simp only [Act.put,zt,zu,zv,i64_w,i32_w]
    rfl
  refine take_ (i:=1) (N:=some 24) (v:=?_) (a':=?_) #[true,true,false,false,true,false,false,false,false] rfl rfl (take_ofW HT_.out HW_.out (by kernel_rfl)) (fun _ _ _ h=>h) (Or.inl ⟨by rfl,?_⟩) hHeld ?_ ?_
  rotate_left
  · rintro w' ⟨s0,s1,s2,s3,s4,s5,s6,s7⟩
    go_simp
    exact zr2
  rotate_left
  · simp only [Act.put,zt,zu,zv,i64_w,i32_w]
    rfl
  refine take_ (i:=5) (N:=some 28) (v:=?_) (a':=?_) #[true,true,false,false,true,true,false,false,false] rfl rfl (take_ofW HT_.out HW_.out (by kernel_rfl)) (fun _ _ _ h=>h) (Or.inl ⟨by rfl,?_⟩) hHeld ?_ ?_
  rotate_left
  · rintro w' ⟨s0,s1,s2,s3,s4,s5,s6,s7⟩
    go_simp
    exact zr2
  rotate_left
  · simp only [Act.put,zt,zu,zv,i64_w,i32_w]
    rfl
  refine one_ (i:=2) (N:=some 25) #[true,true,true,false,true,true,false,false,false] rfl rfl (one_of HT_.out (by kernel_rfl)) (by decide) (fun K hK=>?_)
  refine goes_ Tryd.func24 (by kernel_rfl) rfl #[.string a0_1] (by rfl) rfl rfl za5 ?_
  with_reducible refine (impl_orDash.calls a0_1 t8005 _ A15.out).mono ?_
  rintro e w' ⟨rfl,⟨nd,rfl⟩⟩
  refine ⟨_,rfl,?_⟩
  refine hK.out _ _ ⟨(blk_cell BK8001.out 0).trans rfl,(blk_cell BK8001.out 1).trans rfl,(blk_cell BK8001.out 2).trans rfl,(blk_cell BK8001.out 3).trans rfl,(blk_cell BK8001.out 4).trans rfl,(blk_cell BK8001.out 5).trans rfl,(blk_cell BK8001.out 6).trans rfl,(blk_cell BK8001.out 7).trans rfl⟩ (fun hHeld=>?_)
  clear hK K
  refine norm_ (a':=?_) ?_ ?_
  rotate_left
  · show Act.put _ (some 25) _=_
    simp only [Act.put,zt,zu,zv,i64_w,i32_w]
    rfl
  refine pure_ (i:=3) (N:=some 26) (v:=?_) (a':=?_) #[true,true,true,true,true,true,false,false,false] rfl rfl (any_of HT_.out (by kernel_rfl)) (fun _ _ _ h=>h) (Or.inl ⟨by rfl,?_⟩) ?_ ?_
  rotate_left
  · intro w'
    go_simp
    exact zr2
  rotate_left
  · simp only [Act.put,zt,zu,zv,i64_w,i32_w]
    rfl
  refine one_ (i:=6) (N:=some 29) #[true,true,true,true,true,true,true,false,false] rfl rfl (one_of HT_.out (by kernel_rfl)) (by decide) (fun K hK=>?_)
  refine goes_ Tryd.func24 (by kernel_rfl) rfl #[.string a0_2] (by rfl) rfl rfl za5 ?_
  with_reducible refine (impl_orDash.calls a0_2 t8006 _ A17.out).mono ?_
  rintro e w' ⟨rfl,⟨nd,rfl⟩⟩
  refine ⟨_,rfl,?_⟩
  refine hK.out _ _ ⟨(blk_cell BK8001.out 0).trans rfl,(blk_cell BK8001.out 1).trans rfl,(blk_cell BK8001.out 2).trans rfl,(blk_cell BK8001.out 3).trans rfl,(blk_cell BK8001.out 4).trans rfl,(blk_cell BK8001.out 5).trans rfl,(blk_cell BK8001.out 6).trans rfl,(blk_cell BK8001.out 7).trans rfl⟩ (fun hHeld=>?_)
  clear hK K
  refine norm_ (a':=?_) ?_ ?_
  rotate_left
  · show Act.put _ (some 29) _=_
    simp only [Act.put,zt,zu,zv,i64_w,i32_w]
    rfl
  refine pure_ (i:=7) (N:=some 30) (v:=?_) (a':=?_) #[true,true,true,true,true,true,true,true,false] rfl rfl (any_of HT_.out (by kernel_rfl)) (fun _ _ _ h=>h) (Or.inl ⟨by rfl,?_⟩) ?_ ?_
  rotate_left
  · intro w'
    go_simp
    exact zr2
  rotate_left
  · simp only [Act.put,zt,zu,zv,i64_w,i32_w]
    rfl
  refine pure_ (i:=8) (N:=some 2) (v:=?_) (a':=?_) #[true,true,true,true,true,true,true,true,true] rfl rfl (any_of HT_.out (by kernel_rfl)) (fun _ _ _ h=>h) (Or.inl ⟨by rfl,?_⟩) ?_ ?_
  rotate_left
  · intro w'
    go_simp
    exact zr2
  rotate_left
  · simp only [Act.put,zt,zu,zv,i64_w,i32_w]
    rfl
  refine done_ (done_of HT_.out (by kernel_rfl)) ?_
  try go_wp2
  go_ret
  exact ⟨za6,za2⟩
 ·rw [if_neg c18] at H
  exact absurd H (by simp)
 ·rw [if_neg c16] at H
  exact absurd H (by simp)
 rw [if_neg c14] at H
 have c14b0:(a0_0 == 2)=false:=beq_eq_false_iff_ne.mpr c14
 have c14b1:(a0_0 != 2)=true:=bne_iff_ne.mpr c14
 by_cases c24:a0_0=3
 rw [if_pos c24] at H
 have c24b0:(a0_0 == 3)=true:=beq_iff_eq.mpr c24
 have c24b1:(a0_0 != 3)=false:=bne_eq_false_iff_eq.mpr c24
 clear c24
 replace H:=zo H
 obtain ⟨t8007,A250,H⟩:=H
 replace H:(if t8007.size+4≤9223372036854775807 then ((impl_FormatRegex.f k a0_3 a0_4 l0_5).bind fun t8008=>(if (t8007 ++ (⟨#[32,105,110,32]⟩:ByteArray)).size+t8008.size≤9223372036854775807 then (some ((t8007 ++ (⟨#[32,105,110,32]⟩:ByteArray)) ++ t8008)) else (none))) else (none))=some r:=H
 have A25:=zk A250
 clear A250
 by_cases c26:t8007.size+4≤9223372036854775807
 rw [if_pos c26] at H
 have c26z:=c26
 try simp at c26z
 try replace c26z:=eq_false (Nat.not_lt.2 c26z)
 have c26b0:=eq_true c26
 have c26b1:decide (t8007.size+4≤9223372036854775807)=true:=decide_eq_true c26
 try have c26b2:(9223372036854775807 < t8007.size+4)=False:=eq_false (Nat.not_lt.2 c26)
 replace H:=zo H
 obtain ⟨t8008,A270,H⟩:=H
 replace H:(if (t8007 ++ (⟨#[32,105,110,32]⟩:ByteArray)).size+t8008.size≤9223372036854775807 then (some ((t8007 ++ (⟨#[32,105,110,32]⟩:ByteArray)) ++ t8008)) else (none))=some r:=H
 have A27:=zk A270
 clear A270
 by_cases c28:(t8007 ++ (⟨#[32,105,110,32]⟩:ByteArray)).size+t8008.size≤9223372036854775807
 ·rw [if_pos c28] at H
  have c28z:=c28
  try simp at c28z
  try replace c28z:=eq_false (Nat.not_lt.2 c28z)
  have c28b0:=eq_true c28
  have c28b1:decide ((t8007 ++ (⟨#[32,105,110,32]⟩:ByteArray)).size+t8008.size≤9223372036854775807)=true:=decide_eq_true c28
  try have c28y:(9223372036854775807 < t8007.size+4+t8008.size)=False:=eq_false (by have q_:=c28;simp only [ByteArray.size_append,show (⟨#[32,105,110,32]⟩:ByteArray).size=4 from rfl] at q_;omega)
  try have c28b2:(9223372036854775807 < (t8007 ++ (⟨#[32,105,110,32]⟩:ByteArray)).size+t8008.size)=False:=eq_false (Nat.not_lt.2 c28)
  obtain rfl:=zi H
  go_enter Tryd.func8,Tryd.ntmps8
  try go_wp2_with (first|((with_reducible refine gate_dst (N:=1) rfl ?_);refine zE (N:=1) (cs:=#[.int .i64 a0_0,.string a0_1,.string a0_2,.int .i64 a0_3,.string a0_4,.slice A0_5 l0_5.length c0_5,.slice A0_6 l0_6.length c0_6,.int .i64 a0_7]) (t:=34) ?_;intro gb8001 hg w29 hbox hb;have n0_:=zk (below_step za2 hb);have n1_:=zk (hbox);have n2_:=zk (zs (w:=w) hg za2);have n3_:=zk (zs (w:=w) hg za2);clear HB;have HB:=n0_;have BK8001:=n1_;have GW8001:=n2_;have GE8001:=n3_;clear n0_ n1_ n2_ n3_;clear hb hbox hg;obtain ⟨hcz30_0,hcz30_1,hcz30_2,hcz30_3,hcz30_4,hcz30_5,hcz30_6,hcz30_7,hfz30_0,hfz30_1,hfz30_2,hfz30_3,hfz30_4,hfz30_5,hfz30_6,hfz30_7⟩:=blk8 BK8001.out)|((with_reducible refine gate_callee (f:=23) rfl ?_);refine goesL_ (some 7) rfl rfl Tryd.func23 (by kernel_rfl) rfl #[.agg #[.int .i64 a0_0,.string a0_1,.string a0_2,.int .i64 a0_3,.string a0_4,.slice A0_5 l0_5.length c0_5,.slice A0_6 l0_6.length c0_6,.int .i64 a0_7]] rfl za5 ?_;(with_reducible refine (impl_IsValidConstraint.calls k a0_0 a0_1 a0_2 a0_3 a0_4 _ _ l0_5 _ _ l0_6 a0_7 _ _ ?side1 ?side2 ?side3 ?side4 A2.out).mono ?_);(case side1=>repeat (first|exact (Kd.C_below HR0_5.out HB.out)|(with_reducible refine Kd.C_alloc ?_ _)|(with_reducible refine Kd.C_drewN ?_ _)|(with_reducible refine Kd.C_drew ?_)));(case side2=>exact HC0_5.out);(case side3=>repeat (first|exact (Kd.C_below HR0_6.out HB.out)|(with_reducible refine Kd.C_alloc ?_ _)|(with_reducible refine Kd.C_drewN ?_ _)|(with_reducible refine Kd.C_drew ?_)));(case side4=>exact HC0_6.out);rintro e w31 ⟨rfl,hb⟩;refine ⟨_,rfl,?_⟩;have n0_:=zk (zb BK8001.out hb);have n1_:=zk (below_step za2 hb);clear BK8001;clear HB;have BK8001:=n0_;have HB:=n1_;clear n0_ n1_;(try clear hb);(try clear hb2);(try clear hk);(try clear hi);obtain ⟨hcz32_0,hcz32_1,hcz32_2,hcz32_3,hcz32_4,hcz32_5,hcz32_6,hcz32_7,hfz32_0,hfz32_1,hfz32_2,hfz32_3,hfz32_4,hfz32_5,hfz32_6,hfz32_7⟩:=blk8 BK8001.out))
  have n0_:=zk (blk_drew BK8001.out)
  have n1_:=zk (below_drew1 HB.out)
  clear BK8001
  clear HB
  have BK8001:=n0_
  have HB:=n1_
  clear n0_ n1_
  refine start_ (n:=9) (S:=fun w'=>w'.cell? ⟨gb8001,0,none⟩=some (.int .i64 a0_0)∧w'.cell? ⟨gb8001,1,none⟩=some (.string a0_1)∧w'.cell? ⟨gb8001,2,none⟩=some (.string a0_2)∧w'.cell? ⟨gb8001,3,none⟩=some (.int .i64 a0_3)∧w'.cell? ⟨gb8001,4,none⟩=some (.string a0_4)∧w'.cell? ⟨gb8001,5,none⟩=some (.slice A0_5 l0_5.length c0_5)∧w'.cell? ⟨gb8001,6,none⟩=some (.slice A0_6 l0_6.length c0_6)∧w'.cell? ⟨gb8001,7,none⟩=some (.int .i64 a0_7)) (ds:=[]) #[false,false,false,false,false,false,false,false,false] (by kernel_rfl) rfl rfl ⟨(blk_cell BK8001.out 0).trans rfl,(blk_cell BK8001.out 1).trans rfl,(blk_cell BK8001.out 2).trans rfl,(blk_cell BK8001.out 3).trans rfl,(blk_cell BK8001.out 4).trans rfl,(blk_cell BK8001.out 5).trans rfl,(blk_cell BK8001.out 6).trans rfl,(blk_cell BK8001.out 7).trans rfl⟩ (fun hHeld=>?_);refine with_tabW impl_FormatConstraint.tab9 impl_FormatConstraint.bits9 (fun HT_ HW_=>?_)
  generalize w31.drew=w33 at BK8001 HB hHeld ⊢
  refine pure_ (i:=0) (N:=some 33) (v:=?_) (a':=?_) #[true,false,false,false,false,false,false,false,false] rfl rfl (any_of HT_.out (by kernel_rfl)) (fun _ _ _ h=>h) (Or.inl ⟨by rfl,?_⟩) ?_ ?_
  rotate_left
  · intro w'
    go_simp
    exact zr2
  rotate_left
  · simp only [Act.put,zt,zu,zv,i64_w,i32_w]
    rfl
  refine pure_ (i:=4) (N:=some 37) (v:=?_) (a':=?_) #[true,false,false,false,true,false,false,false,false] rfl rfl (any_of HT_.out (by kernel_rfl)) (fun _ _ _ h=>h) (Or.inl ⟨by rfl,?_⟩) ?_ ?_
  rotate_left
  · intro w'
    go_simp
    exact zr2
  rotate_left
  · simp only [Act.put,zt,zu,zv,i64_w,i32_w]
    rfl
  refine take_ (i:=1) (N:=some 34) (v:=?_) (a':=?_) #[true,true,false,false,true,false,false,false,false] rfl rfl (take_ofW HT_.out HW_.out (by kernel_rfl)) (fun _ _ _ h=>h) (Or.inl ⟨by rfl,?_⟩) hHeld ?_ ?_
  rotate_left
  · rintro w' ⟨s0,s1,s2,s3,s4,s5,s6,s7⟩
    go_simp
    exact zr2
  rotate_left
  · simp only [Act.put,zt,zu,zv,i64_w,i32_w]
    rfl
  refine take_ (i:=5) (N:=some 38) (v:=?_) (a':=?_) #[true,true,false,false,true,true,false,false,false] rfl rfl (take_ofW HT_.out HW_.out (by kernel_rfl)) (fun _ _ _ h=>h) (Or.inl ⟨by rfl,?_⟩) hHeld ?_ ?_
  rotate_left
  · rintro w' ⟨s0,s1,s2,s3,s4,s5,s6,s7⟩
    go_simp
    exact zr2
  rotate_left
  · simp only [Act.put,zt,zu,zv,i64_w,i32_w]
    rfl
  refine one_ (i:=2) (N:=some 35) #[true,true,true,false,true,true,false,false,false] rfl rfl (one_of HT_.out (by kernel_rfl)) (by decide) (fun K hK=>?_)
  refine goes_ Tryd.func24 (by kernel_rfl) rfl #[.string a0_1] (by rfl) rfl rfl za5 ?_
  with_reducible refine (impl_orDash.calls a0_1 t8007 _ A25.out).mono ?_
  rintro e w' ⟨rfl,⟨nd,rfl⟩⟩
  refine ⟨_,rfl,?_⟩
  refine hK.out _ _ ⟨(blk_cell BK8001.out 0).trans rfl,(blk_cell BK8001.out 1).trans rfl,(blk_cell BK8001.out 2).trans rfl,(blk_cell BK8001.out 3).trans rfl,(blk_cell BK8001.out 4).trans rfl,(blk_cell BK8001.out 5).trans rfl,(blk_cell BK8001.out 6).trans rfl,(blk_cell BK8001.out 7).trans rfl⟩ (fun hHeld=>?_)
  clear hK K
  refine norm_ (a':=?_) ?_ ?_
  rotate_left
  · show Act.put _ (some 35) _=_
    simp only [Act.put,zt,zu,zv,i64_w,i32_w]
    rfl
  refine pure_ (i:=3) (N:=some 36) (v:=?_) (a':=?_) #[true,true,true,true,true,true,false,false,false] rfl rfl (any_of HT_.out (by kernel_rfl)) (fun _ _ _ h=>h) (Or.inl ⟨by rfl,?_⟩) ?_ ?_
  rotate_left
  · intro w'
    go_simp
    exact zr2
  rotate_left
  · simp only [Act.put,zt,zu,zv,i64_w,i32_w]
    rfl
  refine one_ (i:=6) (N:=some 39) #[true,true,true,true,true,true,true,false,false] rfl rfl (one_of HT_.out (by kernel_rfl)) (by decide) (fun K hK=>?_)
  refine goes_ Tryd.func25 (by kernel_rfl) rfl #[.agg #[.int .i64 a0_3,.string a0_4,.slice A0_5 l0_5.length c0_5]] (by rfl) rfl rfl za5 ?_
  with_reducible refine (impl_FormatRegex.calls k a0_3 a0_4 _ _ l0_5 t8008 _ ?side1 ?side2 A27.out).mono ?_
  (case side1=>repeat (first|exact (Kd.C_below HR0_5.out za2)|(with_reducible refine Kd.C_alloc ?_ _)|(with_reducible refine Kd.C_drewN ?_ _)|(with_reducible refine Kd.C_drew ?_)))
  (case side2=>exact HC0_5.out)
  rintro e w34 ⟨rfl,hb⟩
  refine ⟨_,rfl,?_⟩
  have n0_:=zk (zb BK8001.out hb)
  have n1_:=zk (below_step za2 hb)
  clear BK8001
  clear HB
  have BK8001:=n0_
  have HB:=n1_
  clear n0_ n1_
  (try clear hb)
  (try clear hb2)
  (try clear hk)
  (try clear hi)
  refine hK.out _ _ ⟨(blk_cell BK8001.out 0).trans rfl,(blk_cell BK8001.out 1).trans rfl,(blk_cell BK8001.out 2).trans rfl,(blk_cell BK8001.out 3).trans rfl,(blk_cell BK8001.out 4).trans rfl,(blk_cell BK8001.out 5).trans rfl,(blk_cell BK8001.out 6).trans rfl,(blk_cell BK8001.out 7).trans rfl⟩ (fun hHeld=>?_)
  clear hK K
  refine norm_ (a':=?_) ?_ ?_
  rotate_left
  · show Act.put _ (some 39) _=_
    simp only [Act.put,zt,zu,zv,i64_w,i32_w]
    rfl
  refine pure_ (i:=7) (N:=some 40) (v:=?_) (a':=?_) #[true,true,true,true,true,true,true,true,false] rfl rfl (any_of HT_.out (by kernel_rfl)) (fun _ _ _ h=>h) (Or.inl ⟨by rfl,?_⟩) ?_ ?_
  rotate_left
  · intro w'
    go_simp
    exact zr2
  rotate_left
  · simp only [Act.put,zt,zu,zv,i64_w,i32_w]
    rfl
  refine pure_ (i:=8) (N:=some 2) (v:=?_) (a':=?_) #[true,true,true,true,true,true,true,true,true] rfl rfl (any_of HT_.out (by kernel_rfl)) (fun _ _ _ h=>h) (Or.inl ⟨by rfl,?_⟩) ?_ ?_
  rotate_left
  · intro w'
    go_simp
    exact zr2
  rotate_left
  · simp only [Act.put,zt,zu,zv,i64_w,i32_w]
    rfl
  refine done_ (done_of HT_.out (by kernel_rfl)) ?_
  try go_wp2
  go_ret
  exact ⟨za6,za2⟩
 ·rw [if_neg c28] at H
  exact absurd H (by simp)
 ·rw [if_neg c26] at H
  exact absurd H (by simp)
 rw [if_neg c24] at H
 have c24b0:(a0_0 == 3)=false:=beq_eq_false_iff_ne.mpr c24
 have c24b1:(a0_0 != 3)=true:=bne_iff_ne.mpr c24
 by_cases c35:a0_0=4
 rw [if_pos c35] at H
 have c35b0:(a0_0 == 4)=true:=beq_iff_eq.mpr c35
 have c35b1:(a0_0 != 4)=false:=bne_eq_false_iff_eq.mpr c35
 clear c35
 replace H:=zo H
 obtain ⟨t8009,A360,H⟩:=H
 replace H:(if t8009.size+5≤9223372036854775807 then ((impl_FormatRegex.f k a0_3 a0_4 l0_5).bind fun t8010=>(if (t8009 ++ (⟨#[32,111,117,116,32]⟩:ByteArray)).size+t8010.size≤9223372036854775807 then (some ((t8009 ++ (⟨#[32,111,117,116,32]⟩:ByteArray)) ++ t8010)) else (none))) else (none))=some r:=H
 have A36:=zk A360
 clear A360
 by_cases c37:t8009.size+5≤9223372036854775807
 rw [if_pos c37] at H
 have c37z:=c37
 try simp at c37z
 try replace c37z:=eq_false (Nat.not_lt.2 c37z)
 have c37b0:=eq_true c37
 have c37b1:decide (t8009.size+5≤9223372036854775807)=true:=decide_eq_true c37
 try have c37b2:(9223372036854775807 < t8009.size+5)=False:=eq_false (Nat.not_lt.2 c37)
 replace H:=zo H
 obtain ⟨t8010,A380,H⟩:=H
 replace H:(if (t8009 ++ (⟨#[32,111,117,116,32]⟩:ByteArray)).size+t8010.size≤9223372036854775807 then (some ((t8009 ++ (⟨#[32,111,117,116,32]⟩:ByteArray)) ++ t8010)) else (none))=some r:=H
 have A38:=zk A380
 clear A380
 by_cases c39:(t8009 ++ (⟨#[32,111,117,116,32]⟩:ByteArray)).size+t8010.size≤9223372036854775807
 ·rw [if_pos c39] at H
  have c39z:=c39
  try simp at c39z
  try replace c39z:=eq_false (Nat.not_lt.2 c39z)
  have c39b0:=eq_true c39
  have c39b1:decide ((t8009 ++ (⟨#[32,111,117,116,32]⟩:ByteArray)).size+t8010.size≤9223372036854775807)=true:=decide_eq_true c39
  try have c39y:(9223372036854775807 < t8009.size+5+t8010.size)=False:=eq_false (by have q_:=c39;simp only [ByteArray.size_append,show (⟨#[32,111,117,116,32]⟩:ByteArray).size=5 from rfl] at q_;omega)
  try have c39b2:(9223372036854775807 < (t8009 ++ (⟨#[32,111,117,116,32]⟩:ByteArray)).size+t8010.size)=False:=eq_false (Nat.not_lt.2 c39)
  obtain rfl:=zi H
  go_enter Tryd.func8,Tryd.ntmps8
  try go_wp2_with (first|((with_reducible refine gate_dst (N:=1) rfl ?_);refine zE (N:=1) (cs:=#[.int .i64 a0_0,.string a0_1,.string a0_2,.int .i64 a0_3,.string a0_4,.slice A0_5 l0_5.length c0_5,.slice A0_6 l0_6.length c0_6,.int .i64 a0_7]) (t:=34) ?_;intro gb8001 hg w40 hbox hb;have n0_:=zk (below_step za2 hb);have n1_:=zk (hbox);have n2_:=zk (zs (w:=w) hg za2);have n3_:=zk (zs (w:=w) hg za2);clear HB;have HB:=n0_;have BK8001:=n1_;have GW8001:=n2_;have GE8001:=n3_;clear n0_ n1_ n2_ n3_;clear hb hbox hg;obtain ⟨hcz41_0,hcz41_1,hcz41_2,hcz41_3,hcz41_4,hcz41_5,hcz41_6,hcz41_7,hfz41_0,hfz41_1,hfz41_2,hfz41_3,hfz41_4,hfz41_5,hfz41_6,hfz41_7⟩:=blk8 BK8001.out)|((with_reducible refine gate_callee (f:=23) rfl ?_);refine goesL_ (some 7) rfl rfl Tryd.func23 (by kernel_rfl) rfl #[.agg #[.int .i64 a0_0,.string a0_1,.string a0_2,.int .i64 a0_3,.string a0_4,.slice A0_5 l0_5.length c0_5,.slice A0_6 l0_6.length c0_6,.int .i64 a0_7]] rfl za5 ?_;(with_reducible refine (impl_IsValidConstraint.calls k a0_0 a0_1 a0_2 a0_3 a0_4 _ _ l0_5 _ _ l0_6 a0_7 _ _ ?side1 ?side2 ?side3 ?side4 A2.out).mono ?_);(case side1=>repeat (first|exact (Kd.C_below HR0_5.out HB.out)|(with_reducible refine Kd.C_alloc ?_ _)|(with_reducible refine Kd.C_drewN ?_ _)|(with_reducible refine Kd.C_drew ?_)));(case side2=>exact HC0_5.out);(case side3=>repeat (first|exact (Kd.C_below HR0_6.out HB.out)|(with_reducible refine Kd.C_alloc ?_ _)|(with_reducible refine Kd.C_drewN ?_ _)|(with_reducible refine Kd.C_drew ?_)));(case side4=>exact HC0_6.out);rintro e w42 ⟨rfl,hb⟩;refine ⟨_,rfl,?_⟩;have n0_:=zk (zb BK8001.out hb);have n1_:=zk (below_step za2 hb);clear BK8001;clear HB;have BK8001:=n0_;have HB:=n1_;clear n0_ n1_;(try clear hb);(try clear hb2);(try clear hk);(try clear hi);obtain ⟨hcz43_0,hcz43_1,hcz43_2,hcz43_3,hcz43_4,hcz43_5,hcz43_6,hcz43_7,hfz43_0,hfz43_1,hfz43_2,hfz43_3,hfz43_4,hfz43_5,hfz43_6,hfz43_7⟩:=blk8 BK8001.out))
  have n0_:=zk (blk_drew BK8001.out)
  have n1_:=zk (below_drew1 HB.out)
  clear BK8001
  clear HB
  have BK8001:=n0_
  have HB:=n1_
  clear n0_ n1_
  refine start_ (n:=9) (S:=fun w'=>w'.cell? ⟨gb8001,0,none⟩=some (.int .i64 a0_0)∧w'.cell? ⟨gb8001,1,none⟩=some (.string a0_1)∧w'.cell? ⟨gb8001,2,none⟩=some (.string a0_2)∧w'.cell? ⟨gb8001,3,none⟩=some (.int .i64 a0_3)∧w'.cell? ⟨gb8001,4,none⟩=some (.string a0_4)∧w'.cell? ⟨gb8001,5,none⟩=some (.slice A0_5 l0_5.length c0_5)∧w'.cell? ⟨gb8001,6,none⟩=some (.slice A0_6 l0_6.length c0_6)∧w'.cell? ⟨gb8001,7,none⟩=some (.int .i64 a0_7)) (ds:=[]) #[false,false,false,false,false,false,false,false,false] (by kernel_rfl) rfl rfl ⟨(blk_cell BK8001.out 0).trans rfl,(blk_cell BK8001.out 1).trans rfl,(blk_cell BK8001.out 2).trans rfl,(blk_cell BK8001.out 3).trans rfl,(blk_cell BK8001.out 4).trans rfl,(blk_cell BK8001.out 5).trans rfl,(blk_cell BK8001.out 6).trans rfl,(blk_cell BK8001.out 7).trans rfl⟩ (fun hHeld=>?_);refine with_tabW impl_FormatConstraint.tab11 impl_FormatConstraint.bits11 (fun HT_ HW_=>?_)
  generalize w42.drew=w44 at BK8001 HB hHeld ⊢
  refine pure_ (i:=0) (N:=some 43) (v:=?_) (a':=?_) #[true,false,false,false,false,false,false,false,false] rfl rfl (any_of HT_.out (by kernel_rfl)) (fun _ _ _ h=>h) (Or.inl ⟨by rfl,?_⟩) ?_ ?_
  rotate_left
  · intro w'
    go_simp
    exact zr2
  rotate_left
  · simp only [Act.put,zt,zu,zv,i64_w,i32_w]
    rfl
  refine pure_ (i:=4) (N:=some 47) (v:=?_) (a':=?_) #[true,false,false,false,true,false,false,false,false] rfl rfl (any_of HT_.out (by kernel_rfl)) (fun _ _ _ h=>h) (Or.inl ⟨by rfl,?_⟩) ?_ ?_
  rotate_left
  · intro w'
    go_simp
    exact zr2
  rotate_left
  · simp only [Act.put,zt,zu,zv,i64_w,i32_w]
    rfl
  refine take_ (i:=1) (N:=some 44) (v:=?_) (a':=?_) #[true,true,false,false,true,false,false,false,false] rfl rfl (take_ofW HT_.out HW_.out (by kernel_rfl)) (fun _ _ _ h=>h) (Or.inl ⟨by rfl,?_⟩) hHeld ?_ ?_
  rotate_left
  · rintro w' ⟨s0,s1,s2,s3,s4,s5,s6,s7⟩
    go_simp
    exact zr2
  rotate_left
  · simp only [Act.put,zt,zu,zv,i64_w,i32_w]
    rfl
  refine take_ (i:=5) (N:=some 48) (v:=?_) (a':=?_) #[true,true,false,false,true,true,false,false,false] rfl rfl (take_ofW HT_.out HW_.out (by kernel_rfl)) (fun _ _ _ h=>h) (Or.inl ⟨by rfl,?_⟩) hHeld ?_ ?_
  rotate_left
  · rintro w' ⟨s0,s1,s2,s3,s4,s5,s6,s7⟩
    go_simp
    exact zr2
  rotate_left
  · simp only [Act.put,zt,zu,zv,i64_w,i32_w]
    rfl
  refine one_ (i:=2) (N:=some 45) #[true,true,true,false,true,true,false,false,false] rfl rfl (one_of HT_.out (by kernel_rfl)) (by decide) (fun K hK=>?_)
  refine goes_ Tryd.func24 (by kernel_rfl) rfl #[.string a0_1] (by rfl) rfl rfl za5 ?_
  with_reducible refine (impl_orDash.calls a0_1 t8009 _ A36.out).mono ?_
  rintro e w' ⟨rfl,⟨nd,rfl⟩⟩
  refine ⟨_,rfl,?_⟩
  refine hK.out _ _ ⟨(blk_cell BK8001.out 0).trans rfl,(blk_cell BK8001.out 1).trans rfl,(blk_cell BK8001.out 2).trans rfl,(blk_cell BK8001.out 3).trans rfl,(blk_cell BK8001.out 4).trans rfl,(blk_cell BK8001.out 5).trans rfl,(blk_cell BK8001.out 6).trans rfl,(blk_cell BK8001.out 7).trans rfl⟩ (fun hHeld=>?_)
  clear hK K
  refine norm_ (a':=?_) ?_ ?_
  rotate_left
  · show Act.put _ (some 45) _=_
    simp only [Act.put,zt,zu,zv,i64_w,i32_w]
    rfl
  refine pure_ (i:=3) (N:=some 46) (v:=?_) (a':=?_) #[true,true,true,true,true,true,false,false,false] rfl rfl (any_of HT_.out (by kernel_rfl)) (fun _ _ _ h=>h) (Or.inl ⟨by rfl,?_⟩) ?_ ?_
  rotate_left
  · intro w'
    go_simp
    exact zr2
  rotate_left
  · simp only [Act.put,zt,zu,zv,i64_w,i32_w]
    rfl
  refine one_ (i:=6) (N:=some 49) #[true,true,true,true,true,true,true,false,false] rfl rfl (one_of HT_.out (by kernel_rfl)) (by decide) (fun K hK=>?_)
  refine goes_ Tryd.func25 (by kernel_rfl) rfl #[.agg #[.int .i64 a0_3,.string a0_4,.slice A0_5 l0_5.length c0_5]] (by rfl) rfl rfl za5 ?_
  with_reducible refine (impl_FormatRegex.calls k a0_3 a0_4 _ _ l0_5 t8010 _ ?side1 ?side2 A38.out).mono ?_
  (case side1=>repeat (first|exact (Kd.C_below HR0_5.out za2)|(with_reducible refine Kd.C_alloc ?_ _)|(with_reducible refine Kd.C_drewN ?_ _)|(with_reducible refine Kd.C_drew ?_)))
  (case side2=>exact HC0_5.out)
  rintro e w45 ⟨rfl,hb⟩
  refine ⟨_,rfl,?_⟩
  have n0_:=zk (zb BK8001.out hb)
  have n1_:=zk (below_step za2 hb)
  clear BK8001
  clear HB
  have BK8001:=n0_
  have HB:=n1_
  clear n0_ n1_
  (try clear hb)
  (try clear hb2)
  (try clear hk)
  (try clear hi)
  refine hK.out _ _ ⟨(blk_cell BK8001.out 0).trans rfl,(blk_cell BK8001.out 1).trans rfl,(blk_cell BK8001.out 2).trans rfl,(blk_cell BK8001.out 3).trans rfl,(blk_cell BK8001.out 4).trans rfl,(blk_cell BK8001.out 5).trans rfl,(blk_cell BK8001.out 6).trans rfl,(blk_cell BK8001.out 7).trans rfl⟩ (fun hHeld=>?_)
  clear hK K
  refine norm_ (a':=?_) ?_ ?_
  rotate_left
  · show Act.put _ (some 49) _=_
    simp only [Act.put,zt,zu,zv,i64_w,i32_w]
    rfl
  refine pure_ (i:=7) (N:=some 50) (v:=?_) (a':=?_) #[true,true,true,true,true,true,true,true,false] rfl rfl (any_of HT_.out (by kernel_rfl)) (fun _ _ _ h=>h) (Or.inl ⟨by rfl,?_⟩) ?_ ?_
  rotate_left
  · intro w'
    go_simp
    exact zr2
  rotate_left
  · simp only [Act.put,zt,zu,zv,i64_w,i32_w]
    rfl
  refine pure_ (i:=8) (N:=some 2) (v:=?_) (a':=?_) #[true,true,true,true,true,true,true,true,true] rfl rfl (any_of HT_.out (by kernel_rfl)) (fun _ _ _ h=>h) (Or.inl ⟨by rfl,?_⟩) ?_ ?_
  rotate_left
  · intro w'
    go_simp
    exact zr2
  rotate_left
  · simp only [Act.put,zt,zu,zv,i64_w,i32_w]
    rfl
  refine done_ (done_of HT_.out (by kernel_rfl)) ?_
  try go_wp2
  go_ret
  exact ⟨za6,za2⟩
 ·rw [if_neg c39] at H
  exact absurd H (by simp)
 ·rw [if_neg c37] at H
  exact absurd H (by simp)
 rw [if_neg c35] at H
 have c35b0:(a0_0 == 4)=false:=beq_eq_false_iff_ne.mpr c35
 have c35b1:(a0_0 != 4)=true:=bne_iff_ne.mpr c35
 obtain ⟨y8011,hy8011⟩:∃ y_:List ByteArray,y_=(([(⟨#[108,101,110]⟩:ByteArray)]:List ByteArray)):=⟨_,rfl⟩
 replace H:((slices_Clone_int_int.f l0_6).bind fun t8014=>((some (([a0_7]:List Int):List Int)).bind fun y8017=>(if t8014.length+y8017.length < 17592186044416 then ((some (t8014 ++ y8017:List Int)).bind fun y8020=>(impl_FormatConstraint.l0 k y8011 y8020 (y8020.length:Int) 0)) else (none))))=some r:=by first|(rw [hy8011];with_reducible exact H)|(have H2_:=(Option.bind_some _ _).symm.trans H;rw [hy8011];with_reducible exact H2_)|(have H2_:=(Option.bind_some _ _).symm.trans H;with_reducible exact H2_)|with_reducible exact H|(rw [hy8011];exact H)|exact H
 have Ny8011:=zk hy8011
 clear hy8011
 replace H:=zo H
 obtain ⟨t8014,A460,H⟩:=H
 replace H:((some (([a0_7]:List Int):List Int)).bind fun y8017=>(if t8014.length+y8017.length < 17592186044416 then ((some (t8014 ++ y8017:List Int)).bind fun y8020=>(impl_FormatConstraint.l0 k y8011 y8020 (y8020.length:Int) 0)) else (none)))=some r:=H
 have A46:=zk A460
 clear A460
 obtain ⟨y8017,hy8017⟩:∃ y_:List Int,y_=(([a0_7]:List Int)):=⟨_,rfl⟩
 replace H:(if t8014.length+y8017.length < 17592186044416 then ((some (t8014 ++ y8017:List Int)).bind fun y8020=>(impl_FormatConstraint.l0 k y8011 y8020 (y8020.length:Int) 0)) else (none))=some r:=by first|(rw [hy8017];with_reducible exact H)|(have H2_:=(Option.bind_some _ _).symm.trans H;rw [hy8017];with_reducible exact H2_)|(have H2_:=(Option.bind_some _ _).symm.trans H;with_reducible exact H2_)|with_reducible exact H|(rw [hy8017];exact H)|exact H
 have Ny8017:=zk hy8017
 clear hy8017
 by_cases c47:t8014.length+y8017.length < 17592186044416
 ·rw [if_pos c47] at H
  have LMc47:=zk c47
  clear c47
  obtain ⟨y8020,hy8020⟩:∃ y_:List Int,y_=(t8014 ++ y8017):=⟨_,rfl⟩
  replace H:(impl_FormatConstraint.l0 k y8011 y8020 (y8020.length:Int) 0)=some r:=by first|(rw [hy8020];with_reducible exact H)|(have H2_:=(Option.bind_some _ _).symm.trans H;rw [hy8020];with_reducible exact H2_)|(have H2_:=(Option.bind_some _ _).symm.trans H;with_reducible exact H2_)|with_reducible exact H|(rw [hy8020];exact H)|exact H
  have Ny8020:=zk hy8020
  clear hy8020
  have H':=zk H
  clear H
  go_enter Tryd.func8,Tryd.ntmps8
  try go_wp2_with (first|((with_reducible refine gate_dst (N:=1) rfl ?_);refine zE (N:=1) (cs:=#[.int .i64 a0_0,.string a0_1,.string a0_2,.int .i64 a0_3,.string a0_4,.slice A0_5 l0_5.length c0_5,.slice A0_6 l0_6.length c0_6,.int .i64 a0_7]) (t:=34) ?_;intro gb8001 hg w48 hbox hb;have n0_:=zk (below_step za2 hb);have n1_:=zk (hbox);have n2_:=zk (zs (w:=w) hg za2);have n3_:=zk (zs (w:=w) hg za2);clear HB;have HB:=n0_;have BK8001:=n1_;have GW8001:=n2_;have GE8001:=n3_;clear n0_ n1_ n2_ n3_;clear hb hbox hg;obtain ⟨hcz49_0,hcz49_1,hcz49_2,hcz49_3,hcz49_4,hcz49_5,hcz49_6,hcz49_7,hfz49_0,hfz49_1,hfz49_2,hfz49_3,hfz49_4,hfz49_5,hfz49_6,hfz49_7⟩:=blk8 BK8001.out)|((with_reducible refine gate_callee (f:=23) rfl ?_);refine goesL_ (some 7) rfl rfl Tryd.func23 (by kernel_rfl) rfl #[.agg #[.int .i64 a0_0,.string a0_1,.string a0_2,.int .i64 a0_3,.string a0_4,.slice A0_5 l0_5.length c0_5,.slice A0_6 l0_6.length c0_6,.int .i64 a0_7]] rfl za5 ?_;(with_reducible refine (impl_IsValidConstraint.calls k a0_0 a0_1 a0_2 a0_3 a0_4 _ _ l0_5 _ _ l0_6 a0_7 _ _ ?side1 ?side2 ?side3 ?side4 A2.out).mono ?_);(case side1=>repeat (first|exact (Kd.C_below HR0_5.out HB.out)|(with_reducible refine Kd.C_alloc ?_ _)|(with_reducible refine Kd.C_drewN ?_ _)|(with_reducible refine Kd.C_drew ?_)));(case side2=>exact HC0_5.out);(case side3=>repeat (first|exact (Kd.C_below HR0_6.out HB.out)|(with_reducible refine Kd.C_alloc ?_ _)|(with_reducible refine Kd.C_drewN ?_ _)|(with_reducible refine Kd.C_drew ?_)));(case side4=>exact HC0_6.out);rintro e w50 ⟨rfl,hb⟩;refine ⟨_,rfl,?_⟩;have n0_:=zk (zb BK8001.out hb);have n1_:=zk (below_step za2 hb);clear BK8001;clear HB;have BK8001:=n0_;have HB:=n1_;clear n0_ n1_;(try clear hb);(try clear hb2);(try clear hk);(try clear hi);obtain ⟨hcz51_0,hcz51_1,hcz51_2,hcz51_3,hcz51_4,hcz51_5,hcz51_6,hcz51_7,hfz51_0,hfz51_1,hfz51_2,hfz51_3,hfz51_4,hfz51_5,hfz51_6,hfz51_7⟩:=blk8 BK8001.out)|((with_reducible refine gate_dst (N:=51) rfl ?_);refine Kd.R_lit Kd.string _ 9 ?hg (N:=51) ?hd (xs:=([(⟨#[108,101,110]⟩:ByteArray)]:List ByteArray)) (inner:=[.string (⟨#[108,101,110]⟩:ByteArray)]) (ok:=fun _=>True) (okp:=fun _=>True) ?hr ?hp (fun _ hk=>hk) trivial (Below.refl _ _) (Nat.le_refl _) (by simp) ?_;(case hd=>rfl);(case hg=>rfl);(case hr=>first|(go_simp;done)|(go_simp;rfl));(case hp=>exact (Reps.one (show Kd.M Kd.string _ _ _ (⟨#[108,101,110]⟩:ByteArray) [.string (⟨#[108,101,110]⟩:ByteArray)] from rfl) (Reps.none _ _)));intro v8012 w52 ho53 hb hg_ hnew_;clear hg_ hnew_;(first|rw [← Ny8011.out] at ho53|(simp only [Int.reduceToNat] at ho53;rw [← Ny8011.out] at ho53));have n0_:=zk (Kd.R_lower ho53 (below_size za2));have n1_:=zk (zb BK8001.out hb);have n2_:=zk (below_step za2 hb);clear BK8001;clear HB;have HO8013:=n0_;have BK8001:=n1_;have HB:=n2_;clear n0_ n1_ n2_;clear hb ho53))
  have n0_:=zk (Kd.R_drew HO8013.out)
  have n1_:=zk (blk_drew BK8001.out)
  have n2_:=zk (below_drew1 HB.out)
  clear HO8013
  clear BK8001
  clear HB
  have HO8013:=n0_
  have BK8001:=n1_
  have HB:=n2_
  clear n0_ n1_ n2_
  refine start_ (n:=9) (S:=fun w'=>w'.cell? ⟨gb8001,0,none⟩=some (.int .i64 a0_0)∧w'.cell? ⟨gb8001,1,none⟩=some (.string a0_1)∧w'.cell? ⟨gb8001,2,none⟩=some (.string a0_2)∧w'.cell? ⟨gb8001,3,none⟩=some (.int .i64 a0_3)∧w'.cell? ⟨gb8001,4,none⟩=some (.string a0_4)∧w'.cell? ⟨gb8001,5,none⟩=some (.slice A0_5 l0_5.length c0_5)∧w'.cell? ⟨gb8001,6,none⟩=some (.slice A0_6 l0_6.length c0_6)∧w'.cell? ⟨gb8001,7,none⟩=some (.int .i64 a0_7)) (ds:=[]) #[false,false,false,false,false,false,false,false,false] (by kernel_rfl) rfl rfl ⟨(blk_cell BK8001.out 0).trans rfl,(blk_cell BK8001.out 1).trans rfl,(blk_cell BK8001.out 2).trans rfl,(blk_cell BK8001.out 3).trans rfl,(blk_cell BK8001.out 4).trans rfl,(blk_cell BK8001.out 5).trans rfl,(blk_cell BK8001.out 6).trans rfl,(blk_cell BK8001.out 7).trans rfl⟩ (fun hHeld=>?_);refine with_tabW impl_FormatConstraint.tab13 impl_FormatConstraint.bits13 (fun HT_ HW_=>?_)
  generalize w52.drew=w54 at HO8013 BK8001 HB hHeld ⊢
  refine pure_ (i:=0) (N:=some 52) (v:=?_) (a':=?_) #[true,false,false,false,false,false,false,false,false] rfl rfl (any_of HT_.out (by kernel_rfl)) (fun _ _ _ h=>h) (Or.inl ⟨by rfl,?_⟩) ?_ ?_
  rotate_left
  · intro w'
    go_simp
    exact zr2
  rotate_left
  · simp only [Act.put,zt,zu,zv,i64_w,i32_w]
    rfl
  refine pure_ (i:=3) (N:=some 55) (v:=?_) (a':=?_) #[true,false,false,true,false,false,false,false,false] rfl rfl (any_of HT_.out (by kernel_rfl)) (fun _ _ _ h=>h) (Or.inl ⟨by rfl,?_⟩) ?_ ?_
  rotate_left
  · intro w'
    go_simp
    exact zr2
  rotate_left
  · simp only [Act.put,zt,zu,zv,i64_w,i32_w]
    rfl
  refine pure_ (i:=8) (N:=some 60) (v:=?_) (a':=?_) #[true,false,false,true,false,false,false,false,true] rfl rfl (any_of HT_.out (by kernel_rfl)) (fun _ _ _ h=>h) (Or.inl ⟨by rfl,?_⟩) ?_ ?_
  rotate_left
  · intro w'
    go_simp
    exact zr2
  rotate_left
  · simp only [Act.put,zt,zu,zv,i64_w,i32_w]
    rfl
  refine take_ (i:=1) (N:=some 53) (v:=?_) (a':=?_) #[true,true,false,true,false,false,false,false,true] rfl rfl (take_ofW HT_.out HW_.out (by kernel_rfl)) (fun _ _ _ h=>h) (Or.inl ⟨by rfl,?_⟩) hHeld ?_ ?_
  rotate_left
  · rintro w' ⟨s0,s1,s2,s3,s4,s5,s6,s7⟩
    go_simp
    exact zr2
  rotate_left
  · simp only [Act.put,zt,zu,zv,i64_w,i32_w]
    rfl
  refine take_ (i:=4) (N:=some 56) (v:=?_) (a':=?_) #[true,true,false,true,true,false,false,false,true] rfl rfl (take_ofW HT_.out HW_.out (by kernel_rfl)) (fun _ _ _ h=>h) (Or.inl ⟨by rfl,?_⟩) hHeld ?_ ?_
  rotate_left
  · rintro w' ⟨s0,s1,s2,s3,s4,s5,s6,s7⟩
    go_simp
    exact zr2
  rotate_left
  · simp only [Act.put,zt,zu,zv,i64_w,i32_w]
    rfl
  refine join_ (σ:=Value × Value) 2 #[true,true,true,true,true,true,false,false,true] (fun s_ => [(54,s_.1),(57,s_.2)]) (fun s_ w'=>(w'.cell? ⟨gb8001,0,none⟩=some (.int .i64 a0_0)∧w'.cell? ⟨gb8001,1,none⟩=some (.string a0_1)∧w'.cell? ⟨gb8001,2,none⟩=some (.string a0_2)∧w'.cell? ⟨gb8001,3,none⟩=some (.int .i64 a0_3)∧w'.cell? ⟨gb8001,4,none⟩=some (.string a0_4)∧w'.cell? ⟨gb8001,5,none⟩=some (.slice A0_5 l0_5.length c0_5)∧w'.cell? ⟨gb8001,6,none⟩=some (.slice A0_6 l0_6.length c0_6)∧w'.cell? ⟨gb8001,7,none⟩=some (.int .i64 a0_7))∧(Kd.R Kd.string 9 w' w.heap.size (fun _=>True) v8012 y8011)∧(Kd.R (Kd.int .i64) 3 w' w.heap.size (fun k_=>some k_ ≠ (s_.2:Value).ownBlock) s_.1 t8014)∧(Kd.R (Kd.int .i64) 3 w' w.heap.size (fun k_=>some k_ ≠ (s_.1:Value).ownBlock) s_.2 y8017)∧(w'.heap[gb8001]? = some (.cells #[.int .i64 a0_0,.string a0_1,.string a0_2,.int .i64 a0_3,.string a0_4,.slice A0_5 l0_5.length c0_5,.slice A0_6 l0_6.length c0_6,.int .i64 a0_7] 34 (0,0)))∧(Below w.heap.size w w')) ?_ ?_
  rotate_left
  · intro hCont
    refine two_ (i:=2) (j:=5) (Ni:=some 54) (Nj:=some 57) #[true,true,true,true,true,false,false,false,true] #[true,true,false,true,true,true,false,false,true] rfl rfl rfl rfl (two_of HT_.out (by kernel_rfl)) (by decide) (by decide) (fun K hK=>?_) (fun K hK=>?_)
    · skip
      refine goes_ Tryd.func26 (by kernel_rfl) rfl #[.slice A0_6 l0_6.length c0_6] (by rfl) rfl rfl za5 ?_
      with_reducible refine (slices_Clone_int_int.calls _ _ l0_6 t8014 _ ?side1 ?side2 A46.out).mono ?_
      (case side1=>repeat (first|exact (Kd.C_below HR0_6.out HB.out)|(with_reducible refine Kd.C_alloc ?_ _)|(with_reducible refine Kd.C_drewN ?_ _)|(with_reducible refine Kd.C_drew ?_)))
      (case side2=>exact HC0_6.out)
      rintro e w55 ⟨v8015,rfl,ho0,hb⟩
      refine ⟨_,rfl,?_⟩
      have n0_:=zk (Kd.R_below (za1 HO8013.out) hb)
      have n1_:=zk (Kd.R_lower ho0 (below_size za2))
      have n2_:=zk (zb BK8001.out hb)
      have n3_:=zk (below_step za2 hb)
      clear HO8013
      clear BK8001
      clear HB
      have HO8013:=n0_
      have HO8016:=n1_
      have BK8001:=n2_
      have HB:=n3_
      clear n0_ n1_ n2_ n3_
      (try clear hb)
      (try clear hb2)
      (try clear hk)
      (try clear hi)
      (try clear ho0)
      refine hK.out _ _ ⟨(blk_cell BK8001.out 0).trans rfl,(blk_cell BK8001.out 1).trans rfl,(blk_cell BK8001.out 2).trans rfl,(blk_cell BK8001.out 3).trans rfl,(blk_cell BK8001.out 4).trans rfl,(blk_cell BK8001.out 5).trans rfl,(blk_cell BK8001.out 6).trans rfl,(blk_cell BK8001.out 7).trans rfl⟩ (fun hHeld=>?_)
      clear hK K
      refine norm_ (a':=?_) ?_ ?_
      rotate_left
      ·show Act.put _ (some 54) _=_
       simp only [Act.put,zt,zu,zv,i64_w,i32_w]
       rfl
      refine one_ (i:=5) (N:=some 57) #[true,true,true,true,true,true,false,false,true] rfl rfl (one_of HT_.out (by kernel_rfl)) (by decide) (fun K hK=>?_)
      refine Kd.R_lit_step (Kd.int .i64) _ 3 ?hg (N:=57) ?hd (xs:=([a0_7]:List Int)) (inner:=[.int .i64 a0_7]) (ok:=fun _=>True) (okp:=fun _=>True) ?hr ?hp (fun _ hk=>hk) trivial (Below.refl _ _) (Nat.le_refl _) (by simp) ?_;(case hd=>rfl);(case hg=>rfl);(case hr=>first|(go_simp;done)|(go_simp;rfl));(case hp=>exact (Reps.one (show Kd.M (Kd.int .i64) _ _ _ a0_7 [.int .i64 a0_7] from rfl) (Reps.none _ _)))
      intro v8018 w56 ho57 hb hg_ hnew_
      clear hg_ hnew_
      (first|rw [← Ny8017.out] at ho57|(simp only [Int.reduceToNat] at ho57;rw [← Ny8017.out] at ho57))
      have n0_:=zk (Kd.R_below (za1 HO8013.out) hb)
      have n1_:=zk (Kd.R_elder' (za1 HO8016.out) (Kd.R_base ho57) hb)
      have n2_:=zk (Kd.R_lower (Kd.R_new' ho57 (Kd.R_lt (za1 HO8016.out))) (below_size za2))
      have n3_:=zk (zb BK8001.out hb)
      have n4_:=zk (below_step za2 hb)
      clear HO8013
      clear HO8016
      clear BK8001
      clear HB
      have HO8013:=n0_
      have HO8016:=n1_
      have HO8019:=n2_
      have BK8001:=n3_
      have HB:=n4_
      clear n0_ n1_ n2_ n3_ n4_
      clear hb ho57
      refine hK.out _ _ ⟨(blk_cell BK8001.out 0).trans rfl,(blk_cell BK8001.out 1).trans rfl,(blk_cell BK8001.out 2).trans rfl,(blk_cell BK8001.out 3).trans rfl,(blk_cell BK8001.out 4).trans rfl,(blk_cell BK8001.out 5).trans rfl,(blk_cell BK8001.out 6).trans rfl,(blk_cell BK8001.out 7).trans rfl⟩ (fun hHeld=>?_)
      clear hK K
      refine norm_ (a':=?_) ?_ ?_
      rotate_left
      ·show Act.put _ (some 57) _=_
       simp only [Act.put,zt,zu,zv,i64_w,i32_w]
       rfl
      exact norm_ (by simp only [putAll,Act.put,zt,zu,zv]) (hCont (v8015,v8018) _ ⟨hHeld,(za1 HO8013.out),(by (with_reducible repeat (first|apply Kd.R_alloc|apply Kd.R_drewN|apply Kd.R_drew));exact Kd.R_mono HO8016.out (fun _ hk=>hk.2)),(by (with_reducible repeat (first|apply Kd.R_alloc|apply Kd.R_drewN|apply Kd.R_drew));exact Kd.R_mono HO8019.out (fun _ hk=>hk.2)),(za0 BK8001.out),za2⟩)
    · skip
      refine Kd.R_lit_step (Kd.int .i64) _ 3 ?hg (N:=57) ?hd (xs:=([a0_7]:List Int)) (inner:=[.int .i64 a0_7]) (ok:=fun _=>True) (okp:=fun _=>True) ?hr ?hp (fun _ hk=>hk) trivial (Below.refl _ _) (Nat.le_refl _) (by simp) ?_;(case hd=>rfl);(case hg=>rfl);(case hr=>first|(go_simp;done)|(go_simp;rfl));(case hp=>exact (Reps.one (show Kd.M (Kd.int .i64) _ _ _ a0_7 [.int .i64 a0_7] from rfl) (Reps.none _ _)))
      intro v8018 w55 ho56 hb hg_ hnew_
      clear hg_ hnew_
      (first|rw [← Ny8017.out] at ho56|(simp only [Int.reduceToNat] at ho56;rw [← Ny8017.out] at ho56))
      have n0_:=zk (Kd.R_below (za1 HO8013.out) hb)
      have n1_:=zk (Kd.R_lower ho56 (below_size za2))
      have n2_:=zk (zb BK8001.out hb)
      have n3_:=zk (below_step za2 hb)
      clear HO8013
      clear BK8001
      clear HB
      have HO8013:=n0_
      have HO8019:=n1_
      have BK8001:=n2_
      have HB:=n3_
      clear n0_ n1_ n2_ n3_
      clear hb ho56
      refine hK.out _ _ ⟨(blk_cell BK8001.out 0).trans rfl,(blk_cell BK8001.out 1).trans rfl,(blk_cell BK8001.out 2).trans rfl,(blk_cell BK8001.out 3).trans rfl,(blk_cell BK8001.out 4).trans rfl,(blk_cell BK8001.out 5).trans rfl,(blk_cell BK8001.out 6).trans rfl,(blk_cell BK8001.out 7).trans rfl⟩ (fun hHeld=>?_)
      clear hK K
      refine norm_ (a':=?_) ?_ ?_
      rotate_left
      ·show Act.put _ (some 57) _=_
       simp only [Act.put,zt,zu,zv,i64_w,i32_w]
       rfl
      refine one_ (i:=2) (N:=some 54) #[true,true,true,true,true,true,false,false,true] rfl rfl (one_of HT_.out (by kernel_rfl)) (by decide) (fun K hK=>?_)
      refine goes_ Tryd.func26 (by kernel_rfl) rfl #[.slice A0_6 l0_6.length c0_6] (by rfl) rfl rfl za5 ?_
      with_reducible refine (slices_Clone_int_int.calls _ _ l0_6 t8014 _ ?side1 ?side2 A46.out).mono ?_
      (case side1=>repeat (first|exact (Kd.C_below HR0_6.out HB.out)|(with_reducible refine Kd.C_alloc ?_ _)|(with_reducible refine Kd.C_drewN ?_ _)|(with_reducible refine Kd.C_drew ?_)))
      (case side2=>exact HC0_6.out)
      rintro e w57 ⟨v8015,rfl,ho0,hb⟩
      refine ⟨_,rfl,?_⟩
      have n0_:=zk (Kd.R_below (za1 HO8013.out) hb)
      have n1_:=zk (Kd.R_elder' (za1 HO8019.out) (Kd.R_base ho0) hb)
      have n2_:=zk (Kd.R_lower (Kd.R_new' ho0 (Kd.R_lt (za1 HO8019.out))) (below_size za2))
      have n3_:=zk (zb BK8001.out hb)
      have n4_:=zk (below_step za2 hb)
      clear HO8013
      clear HO8019
      clear BK8001
      clear HB
      have HO8013:=n0_
      have HO8019:=n1_
      have HO8016:=n2_
      have BK8001:=n3_
      have HB:=n4_
      clear n0_ n1_ n2_ n3_ n4_
      (try clear hb)
      (try clear hb2)
      (try clear hk)
      (try clear hi)
      (try clear ho0)
      refine hK.out _ _ ⟨(blk_cell BK8001.out 0).trans rfl,(blk_cell BK8001.out 1).trans rfl,(blk_cell BK8001.out 2).trans rfl,(blk_cell BK8001.out 3).trans rfl,(blk_cell BK8001.out 4).trans rfl,(blk_cell BK8001.out 5).trans rfl,(blk_cell BK8001.out 6).trans rfl,(blk_cell BK8001.out 7).trans rfl⟩ (fun hHeld=>?_)
      clear hK K
      refine norm_ (a':=?_) ?_ ?_
      rotate_left
      ·show Act.put _ (some 54) _=_
       simp only [Act.put,zt,zu,zv,i64_w,i32_w]
       rfl
      exact norm_ (by simp only [putAll,Act.put,zt,zu,zv]) (hCont (v8015,v8018) _ ⟨hHeld,(za1 HO8013.out),(by (with_reducible repeat (first|apply Kd.R_alloc|apply Kd.R_drewN|apply Kd.R_drew));exact Kd.R_mono HO8016.out (fun _ hk=>hk.2)),(by (with_reducible repeat (first|apply Kd.R_alloc|apply Kd.R_drewN|apply Kd.R_drew));exact Kd.R_mono HO8019.out (fun _ hk=>hk.2)),(za0 BK8001.out),za2⟩)
  rintro ⟨v8015,v8018⟩ w58 ⟨hS_,h0_,h1_,h2_,h3_,h4_⟩
  have n0_:Aside0 (Kd.R Kd.string 9 w58 w.heap.size (fun _=>True) v8012 y8011):=⟨h0_⟩
  have n1_:Aside0 (Kd.R (Kd.int .i64) 3 w58 w.heap.size (fun k_=>some k_ ≠ (v8018:Value).ownBlock) v8015 t8014):=⟨h1_⟩
  have n2_:Aside0 (Kd.R (Kd.int .i64) 3 w58 w.heap.size (fun k_=>some k_ ≠ (v8015:Value).ownBlock) v8018 y8017):=⟨h2_⟩
  have n3_:Aside0 (w58.heap[gb8001]? = some (.cells #[.int .i64 a0_0,.string a0_1,.string a0_2,.int .i64 a0_3,.string a0_4,.slice A0_5 l0_5.length c0_5,.slice A0_6 l0_6.length c0_6,.int .i64 a0_7] 34 (0,0))):=⟨h3_⟩
  have n4_:Aside0 (Below w.heap.size w w58):=⟨h4_⟩
  clear HO8013
  clear BK8001
  clear HB
  clear h0_ h1_ h2_ h3_ h4_
  have HO8013:=n0_
  have HO8016:=n1_
  have HO8019:=n2_
  have BK8001:=n3_
  have HB:=n4_
  clear n0_ n1_ n2_ n3_ n4_
  have hHeld:w58.cell? ⟨gb8001,0,none⟩=some (.int .i64 a0_0)∧w58.cell? ⟨gb8001,1,none⟩=some (.string a0_1)∧w58.cell? ⟨gb8001,2,none⟩=some (.string a0_2)∧w58.cell? ⟨gb8001,3,none⟩=some (.int .i64 a0_3)∧w58.cell? ⟨gb8001,4,none⟩=some (.string a0_4)∧w58.cell? ⟨gb8001,5,none⟩=some (.slice A0_5 l0_5.length c0_5)∧w58.cell? ⟨gb8001,6,none⟩=some (.slice A0_6 l0_6.length c0_6)∧w58.cell? ⟨gb8001,7,none⟩=some (.int .i64 a0_7):=hS_
  obtain ⟨Ao60,co60,eo60⟩:=Kd.R_slice HO8019.out
  (first|subst eo60|(injection eo60 with f1_ f2_ f3_;have f4_:=f1_.symm;have f5_:=f3_.symm;clear f1_ f2_ f3_;subst f4_;subst f5_))
  refine norm_ (a':=?_) ?_ ?_
  rotate_left
  · simp only [putAll,Act.put,zt,zu,zv]
    rfl
  refine one_ (i:=6) (N:=some 58) #[true,true,true,true,true,true,true,false,true] rfl rfl (one_of HT_.out (by kernel_rfl)) (by decide) (fun K hK=>?_)
  refine Kd.R_append_rows_step (Kd.int .i64) (w0:=w) w.heap.size (by rfl) (.tmp 54) (.tmp 57) 25 3 (.int .i64 0) 8 rfl Tryd.underlying25 info3 rfl (by decide) (by omega) v8015 t8014 y8017 _ _ _ (fun k_=>some k_ ≠ (.slice Ao60 y8017.length co60:Value).ownBlock) (fun _=>False) rfl rfl ?aO ?aR (fun _ _ h=>h) (fun _ h=>h.elim) ?aF ?aB ?aS ?aL ?_
  (case aR=>repeat (first|exact (Kd.R_reads' HO8019.out).2.2|(with_reducible refine Kd.C_alloc ?_ _)|(with_reducible refine Kd.C_drewN ?_ _)|(with_reducible refine Kd.C_drew ?_)))
  (case aB=>exact za2)
  (case aF=>exact (fun k_ hk=>Kd.fresh' (Kd.R_lt (za1 HO8019.out)) k_ hk))
  (case aO=>exact (za1 HO8016.out))
  (case aS=>exact (below_size za2))
  (case aL=>have:=LMc47.out;omega)
  intro v8021 w59 ho hb hg hat
  rw [← Ny8020.out] at ho
  have n0_:=zk (blk_grown (g:=gb8001) (o:=.cells #[.int .i64 a0_0,.string a0_1,.string a0_2,.int .i64 a0_3,.string a0_4,.slice A0_5 l0_5.length c0_5,.slice A0_6 l0_6.length c0_6,.int .i64 a0_7] 34 (0,0)) (za0 BK8001.out) hg (Kd.R_ne HO8016.out BK8001.out (by decide)))
  have n1_:=zk (Kd.R_over' (za1 HO8013.out) (Kd.R_typed (za1 HO8016.out)) (by decide) hg)
  have n2_:=zk (Kd.R_after (ok:=(fun _=>True)) (by (with_reducible repeat (first|apply Kd.R_alloc|apply Kd.R_drewN|apply Kd.R_drew));exact Kd.R_mono HO8019.out (fun _ hk=>⟨trivial,hk⟩)) hg hat)
  have n3_:=zk (hb)
  have n4_:=zk (ho)
  clear BK8001
  clear HO8013
  clear HO8019
  clear HB
  clear HO8016
  have BK8001:=n0_
  have HO8013:=n1_
  have HO8019:=n2_
  have HB:=n3_
  have HO8022:=n4_
  clear n0_ n1_ n2_ n3_ n4_
  clear ho hb hg hat
  obtain ⟨Ao61,co61,eo61⟩:=Kd.R_slice HO8022.out
  (first|subst eo61|(injection eo61 with f1_ f2_ f3_;have f4_:=f1_.symm;have f5_:=f3_.symm;clear f1_ f2_ f3_;subst f4_;subst f5_))
  refine hK.out _ _ ⟨(blk_cell BK8001.out 0).trans rfl,(blk_cell BK8001.out 1).trans rfl,(blk_cell BK8001.out 2).trans rfl,(blk_cell BK8001.out 3).trans rfl,(blk_cell BK8001.out 4).trans rfl,(blk_cell BK8001.out 5).trans rfl,(blk_cell BK8001.out 6).trans rfl,(blk_cell BK8001.out 7).trans rfl⟩ (fun hHeld=>?_)
  clear hK K
  refine norm_ (a':=?_) ?_ ?_
  rotate_left
  · show Act.put _ (some 58) _=_
    simp only [Act.put,zt,zu,zv,i64_w,i32_w]
    rfl
  refine pure_ (i:=7) (N:=some 59) (v:=?_) (a':=?_) #[true,true,true,true,true,true,true,true,true] rfl rfl (any_of HT_.out (by kernel_rfl)) (fun _ _ _ h=>h) (Or.inl ⟨by rfl,?_⟩) ?_ ?_
  rotate_left
  · intro w'
    go_simp
    exact zr2
  rotate_left
  · simp only [Act.put,zt,zu,zv,i64_w,i32_w]
    rfl
  refine done_ (done_of HT_.out (by kernel_rfl)) ?_
  try go_wp2
  first|go_loopg [3,60] k (fun kq v3 v60 w'=>∃ (x3_1:List ByteArray) (x60_1:Int),v60 = .int .i64 x60_1∧Aside0 (impl_FormatConstraint.l0 kq x3_1 y8020 (y8020.length:Int) x60_1=some r)∧Aside0 (kq≤k)∧Aside0 (Kd.R Kd.string 9 w' w.heap.size (fun _=>True) v3 x3_1)∧Aside0 (Kd.R (Kd.int .i64) 3 w' w.heap.size (fun _=>True) (.slice Ao61 y8020.length co61) y8020)∧Aside0 (w'.heap[gb8001]? = some (.cells #[.int .i64 a0_0,.string a0_1,.string a0_2,.int .i64 a0_3,.string a0_4,(.slice A0_5 l0_5.length c0_5),(.slice A0_6 l0_6.length c0_6),.int .i64 a0_7] 34 (0,0)))∧Aside0 (Below w.heap.size w w'))|(simp only [Act.put,zt,zv,zu];go_loopg [3,60] k (fun kq v3 v60 w'=>∃ (x3_1:List ByteArray) (x60_1:Int),v60 = .int .i64 x60_1∧Aside0 (impl_FormatConstraint.l0 kq x3_1 y8020 (y8020.length:Int) x60_1=some r)∧Aside0 (kq≤k)∧Aside0 (Kd.R Kd.string 9 w' w.heap.size (fun _=>True) v3 x3_1)∧Aside0 (Kd.R (Kd.int .i64) 3 w' w.heap.size (fun _=>True) (.slice Ao61 y8020.length co61) y8020)∧Aside0 (w'.heap[gb8001]? = some (.cells #[.int .i64 a0_0,.string a0_1,.string a0_2,.int .i64 a0_3,.string a0_4,(.slice A0_5 l0_5.length c0_5),(.slice A0_6 l0_6.length c0_6),.int .i64 a0_7] 34 (0,0)))∧Aside0 (Below w.heap.size w w')))
  case atStart=>exact ⟨(y8011),(0),za7,H',⟨Nat.le_refl _⟩,⟨za1 HO8013.out⟩,⟨by (with_reducible repeat (first|apply Kd.R_alloc|apply Kd.R_drewN|apply Kd.R_drew));exact Kd.R_mono HO8022.out (fun _ hk=>trivial)⟩,⟨za0 BK8001.out⟩,⟨za2⟩⟩
  case round =>
   clear H'
   obtain ⟨x3_1,x60_1,rfl,HA,HK1,HO_3,HO_58,BK8001,HB⟩:=hrel
   cases gk with
   | zero=>exact absurd HA.out (by simp [impl_FormatConstraint.l0])
   | succ k1 =>
    have H:=HA.out
    clear HA
    simp only [impl_FormatConstraint.l0] at H
    by_cases c62:x60_1 < (y8020.length:Int)
    rw [if_pos c62] at H
    have c62b0:decide (x60_1 < (y8020.length:Int))=true:=decide_eq_true c62
    clear c62
    by_cases c63:0≤x60_1
    rw [if_pos c63] at H
    have c63b0:decide (0≤x60_1)=true:=decide_eq_true c63
    clear c63
    by_cases c64:x60_1 < (y8020.length:Int)
    rw [if_pos c64] at H
    have c64b0:decide (x60_1 < (y8020.length:Int))=true:=decide_eq_true c64
    clear c64
    replace H:=zo H
    obtain ⟨t8024,A650,H⟩:=H
    replace H:((some (([t8024]:List ByteArray):List ByteArray)).bind fun y8025=>(if x3_1.length+y8025.length < 8796093022208 then (impl_FormatConstraint.l0 k1 (x3_1 ++ y8025) y8020 (y8020.length:Int) (wrap64 (x60_1+1))) else (none)))=some r:=H
    have A65:=zk A650
    clear A650
    obtain ⟨y8025,hy8025⟩:∃ y_:List ByteArray,y_=(([t8024]:List ByteArray)):=⟨_,rfl⟩
    replace H:(if x3_1.length+y8025.length < 8796093022208 then (impl_FormatConstraint.l0 k1 (x3_1 ++ y8025) y8020 (y8020.length:Int) (wrap64 (x60_1+1))) else (none))=some r:=by first|(rw [hy8025];with_reducible exact H)|(have H2_:=(Option.bind_some _ _).symm.trans H;rw [hy8025];with_reducible exact H2_)|(have H2_:=(Option.bind_some _ _).symm.trans H;with_reducible exact H2_)|with_reducible exact H|(rw [hy8025];exact H)|exact H
    have Ny8025:=zk hy8025
    clear hy8025
    by_cases c66:x3_1.length+y8025.length < 8796093022208
    rw [if_pos c66] at H
    have LMc66:=zk c66
    clear c66
    obtain ⟨y8028,hy8028⟩:∃ y_:List ByteArray,y_=(x3_1 ++ y8025):=⟨_,rfl⟩
    replace H:(impl_FormatConstraint.l0 k1 y8028 y8020 (y8020.length:Int) (wrap64 (x60_1+1)))=some r:=by first|(rw [hy8028];with_reducible exact H)|(have H2_:=(Option.bind_some _ _).symm.trans H;rw [hy8028];with_reducible exact H2_)|(have H2_:=(Option.bind_some _ _).symm.trans H;with_reducible exact H2_)|with_reducible exact H|(rw [hy8028];exact H)|exact H
    have Ny8028:=zk hy8028
    clear hy8028
    have H':=zk H
    clear H
    have p8023:0≤(x60_1:Int):=of_decide_eq_true za8
    have q8023:x60_1 < (y8020.length:Int):=of_decide_eq_true za8
    obtain ⟨ad8023,e8023,hx8023_0⟩:=Kd.at_int (Kd.R_reads' HO_58.out).2.2 x60_1 p8023 q8023
    cases e8023
    replace p8023:=eq_true p8023
    replace q8023:=eq_true q8023
    have fin0_:=zk trivial
    rotate_left
    · rw [if_neg c66] at H
      exact absurd H (by simp)
    · rw [if_neg c64] at H
      exact absurd H (by simp)
    · rw [if_neg c63] at H
      exact absurd H (by simp)
    rw [if_neg c62] at H
    have c62b0:decide (x60_1 < (y8020.length:Int))=false:=decide_eq_false c62
    clear c62
    replace H:=zo H
    obtain ⟨t8031,A720,H⟩:=H
    replace H:(some t8031)=some r:=H
    have A72:=zk A720
    clear A720
    obtain rfl:=zi H
    obtain ⟨Ao73,co73,eo73⟩:=Kd.R_slice HO_3.out
    subst eo73
    have fin1_:=zk trivial
    rotate_left
    all_goals
     go_wp2_with (first|((with_reducible refine gate_callee (f:=27) rfl ?_);refine goesL_ (some 66) rfl rfl Tryd.func27 (by kernel_rfl) rfl #[.int .i64 (rd y8020 x60_1)] rfl za5 ?_;(with_reducible refine (impl_FormatInt.calls (rd y8020 x60_1) t8024 _ A65.out (HTb.out.below za2)).mono ?_);rintro e w67 ⟨rfl,hb⟩;refine ⟨_,rfl,?_⟩;have n0_:=zk (Kd.R_below (za1 HO_3.out) hb);have n1_:=zk (Kd.R_below (za1 HO_58.out) hb);have n2_:=zk (zb BK8001.out hb);have n3_:=zk (below_step za2 hb);clear HO_3;clear HO_58;clear BK8001;clear HB;have HO_3:=n0_;have HO_58:=n1_;have BK8001:=n2_;have HB:=n3_;clear n0_ n1_ n2_ n3_;(try clear hb);(try clear hb2);(try clear hk);(try clear hi))|((with_reducible refine gate_dst (N:=67) rfl ?_);refine Kd.R_lit Kd.string _ 9 ?hg (N:=67) ?hd (xs:=([t8024]:List ByteArray)) (inner:=[.string t8024]) (ok:=fun _=>True) (okp:=fun _=>True) ?hr ?hp (fun _ hk=>hk) trivial (Below.refl _ _) (Nat.le_refl _) (by simp) ?_;(case hd=>rfl);(case hg=>rfl);(case hr=>first|(go_simp;done)|(go_simp;rfl));(case hp=>exact (Reps.one (show Kd.M Kd.string _ _ _ t8024 [.string t8024] from rfl) (Reps.none _ _)));intro v8026 w68 ho69 hb hg_ hnew_;clear hg_ hnew_;(first|rw [← Ny8025.out] at ho69|(simp only [Int.reduceToNat] at ho69;rw [← Ny8025.out] at ho69));have n0_:=zk (Kd.R_elder' (za1 HO_3.out) (Kd.R_base ho69) hb);have n1_:=zk (Kd.R_below (za1 HO_58.out) hb);have n2_:=zk (Kd.R_lower (Kd.R_new' ho69 (Kd.R_lt (za1 HO_3.out))) (below_size za2));have n3_:=zk (zb BK8001.out hb);have n4_:=zk (below_step za2 hb);clear HO_3;clear HO_58;clear BK8001;clear HB;have HO_3:=n0_;have HO_58:=n1_;have HO8027:=n2_;have BK8001:=n3_;have HB:=n4_;clear n0_ n1_ n2_ n3_ n4_;clear hb ho69;obtain ⟨Ao71,co71,eo71⟩:=Kd.R_slice HO8027.out;subst eo71)|((with_reducible refine gate_builtin (b:=.append) (xs:=#[.tmp 64,.tmp 67]) rfl ?_);at_builtin;refine Kd.R_append_rows Kd.string (w0:=w) w.heap.size rfl (.tmp 64) (.tmp 67) 57 9 (.string ⟨#[]⟩) 16 rfl Tryd.underlying57 info9 rfl (by decide) (by omega) u3 x3_1 y8025 _ _ _ (fun k_=>some k_ ≠ (.slice Ao71 y8025.length co71:Value).ownBlock) (fun _=>False) rfl rfl ?aO ?aR (fun _ _ h=>h) (fun _ h=>h.elim) ?aF ?aB ?aS ?aL ?_;(case aR=>repeat (first|exact (Kd.R_reads' HO8027.out).2.2|(with_reducible refine Kd.C_alloc ?_ _)|(with_reducible refine Kd.C_drewN ?_ _)|(with_reducible refine Kd.C_drew ?_)));(case aB=>exact za2);(case aF=>exact (fun k_ hk=>Kd.fresh' (Kd.R_lt (za1 HO8027.out)) k_ hk));(case aO=>exact (by (with_reducible repeat (first|apply Kd.R_alloc|apply Kd.R_drewN|apply Kd.R_drew));exact Kd.R_mono HO_3.out (fun _ hk=>hk.2)));(case aS=>exact (below_size za2));(case aL=>have:=LMc66.out;omega);intro v8029 w70 ho hb hg hat;rw [← Ny8028.out] at ho;have n0_:=zk (Kd.R_over' (za1 HO_58.out) (Kd.R_typed (za1 HO_3.out)) (by decide) hg);have n1_:=zk (blk_grown (g:=gb8001) (o:=.cells #[.int .i64 a0_0,.string a0_1,.string a0_2,.int .i64 a0_3,.string a0_4,.slice A0_5 l0_5.length c0_5,.slice A0_6 l0_6.length c0_6,.int .i64 a0_7] 34 (0,0)) (za0 BK8001.out) hg (Kd.R_ne HO_3.out BK8001.out (by decide)));have n2_:=zk (Kd.R_after (ok:=(fun _=>True)) (za1 HO8027.out) hg hat);have n3_:=zk (hb);have n4_:=zk (ho);clear HO_58;clear BK8001;clear HO8027;clear HB;clear HO_3;have HO_58:=n0_;have BK8001:=n1_;have HO8027:=n2_;have HB:=n3_;have HO8030:=n4_;clear n0_ n1_ n2_ n3_ n4_;clear ho hb hg hat)|((with_reducible refine gate_callee (f:=28) rfl ?_);refine goesL_ (some 71) rfl rfl Tryd.func28 (by kernel_rfl) rfl #[.slice Ao73 x3_1.length co73,.string (⟨#[32]⟩:ByteArray)] rfl za5 ?_;(with_reducible refine (impl_Join.calls k1 _ _ x3_1 (⟨#[32]⟩:ByteArray) t8031 _ ?side1 ?side2 A72.out).mono ?_);(case side1=>repeat (first|exact (Kd.R_reads' HO_3.out).2.2|(with_reducible refine Kd.C_alloc ?_ _)|(with_reducible refine Kd.C_drewN ?_ _)|(with_reducible refine Kd.C_drew ?_)));(case side2=>exact (Kd.R_reads' HO_3.out).2.1);rintro e w74 ⟨rfl,hb⟩;refine ⟨_,rfl,?_⟩;have n0_:=zk (Kd.R_below (za1 HO_3.out) hb);have n1_:=zk (Kd.R_below (za1 HO_58.out) hb);have n2_:=zk (zb BK8001.out hb);have n3_:=zk (below_step za2 hb);clear HO_3;clear HO_58;clear BK8001;clear HB;have HO_3:=n0_;have HO_58:=n1_;have BK8001:=n2_;have HB:=n3_;clear n0_ n1_ n2_ n3_;(try clear hb);(try clear hb2);(try clear hk);(try clear hi)))
     first
     | (
       clear fin0_
       go_roundg k1
       case measure=>have:=HK1.out;omega
       case rel=>exact ⟨(y8028),(wrap64 (x60_1+1)),za7,H',⟨za13⟩,⟨by (with_reducible repeat (first|apply Kd.R_alloc|apply Kd.R_drewN|apply Kd.R_drew));exact Kd.R_mono HO8030.out (fun _ hk=>trivial)⟩,⟨za1 HO_58.out⟩,⟨za0 BK8001.out⟩,⟨za2⟩⟩)
     | (
       clear fin1_
       go_ret
       exact ⟨za6,za2⟩)
 ·rw [if_neg c47] at H
  exact absurd H (by simp)
 ·replace c3:=Bool.eq_false_iff.mpr c3
  subst c3
  have H1:(some (⟨#[]⟩:ByteArray))=some r:=by rw [if_neg (show ¬ (false=true) by decide)] at H;exact H
  clear H
  have H:=H1
  clear H1
  obtain rfl:=zi H
  go_enter Tryd.func8,Tryd.ntmps8
  go_wp2_with (first|((with_reducible refine gate_dst (N:=1) rfl ?_);refine zE (N:=1) (cs:=#[.int .i64 a0_0,.string a0_1,.string a0_2,.int .i64 a0_3,.string a0_4,.slice A0_5 l0_5.length c0_5,.slice A0_6 l0_6.length c0_6,.int .i64 a0_7]) (t:=34) ?_;intro gb8001 hg w75 hbox hb;have n0_:=zk (below_step za2 hb);have n1_:=zk (hbox);have n2_:=zk (zs (w:=w) hg za2);have n3_:=zk (zs (w:=w) hg za2);clear HB;have HB:=n0_;have BK8001:=n1_;have GW8001:=n2_;have GE8001:=n3_;clear n0_ n1_ n2_ n3_;clear hb hbox hg;obtain ⟨hcz76_0,hcz76_1,hcz76_2,hcz76_3,hcz76_4,hcz76_5,hcz76_6,hcz76_7,hfz76_0,hfz76_1,hfz76_2,hfz76_3,hfz76_4,hfz76_5,hfz76_6,hfz76_7⟩:=blk8 BK8001.out)|((with_reducible refine gate_callee (f:=23) rfl ?_);refine goesL_ (some 7) rfl rfl Tryd.func23 (by kernel_rfl) rfl #[.agg #[.int .i64 a0_0,.string a0_1,.string a0_2,.int .i64 a0_3,.string a0_4,.slice A0_5 l0_5.length c0_5,.slice A0_6 l0_6.length c0_6,.int .i64 a0_7]] rfl za5 ?_;(with_reducible refine (impl_IsValidConstraint.calls k a0_0 a0_1 a0_2 a0_3 a0_4 _ _ l0_5 _ _ l0_6 a0_7 _ _ ?side1 ?side2 ?side3 ?side4 A2.out).mono ?_);(case side1=>repeat (first|exact (Kd.C_below HR0_5.out HB.out)|(with_reducible refine Kd.C_alloc ?_ _)|(with_reducible refine Kd.C_drewN ?_ _)|(with_reducible refine Kd.C_drew ?_)));(case side2=>exact HC0_5.out);(case side3=>repeat (first|exact (Kd.C_below HR0_6.out HB.out)|(with_reducible refine Kd.C_alloc ?_ _)|(with_reducible refine Kd.C_drewN ?_ _)|(with_reducible refine Kd.C_drew ?_)));(case side4=>exact HC0_6.out);rintro e w77 ⟨rfl,hb⟩;refine ⟨_,rfl,?_⟩;have n0_:=zk (zb BK8001.out hb);have n1_:=zk (below_step za2 hb);clear BK8001;clear HB;have BK8001:=n0_;have HB:=n1_;clear n0_ n1_;(try clear hb);(try clear hb2);(try clear hk);(try clear hi)))
  go_ret
  exact ⟨za6,za2⟩
def impl_IsValidProblem_1.f (k:Nat) (a0_0:Int) (a0_1:ByteArray) (a0_2:ByteArray) (a0_3:Int) (a0_4:ByteArray) (l0_5:List (S32)) (l0_6:List Int) (a0_7:Int):Option (Bool):=(impl_IsValidConstraint.f k a0_0 a0_1 a0_2 a0_3 a0_4 l0_5 l0_6 a0_7).bind fun t55002=>(some (!t55002))
theorem impl_IsValidProblem_1.mono:∀ a0 a1 a2 a3 a4 a5 a6 a7 k,LeO (impl_IsValidProblem_1.f k a0 a1 a2 a3 a4 a5 a6 a7) (impl_IsValidProblem_1.f (k+1) a0 a1 a2 a3 a4 a5 a6 a7):=by
 intro a0 a1 a2 a3 a4 a5 a6 a7 k
 unfold impl_IsValidProblem_1.f
 repeat' first
  | with_reducible first|exact impl_IsValidConstraint.mono _ _ _ _ _ _ _ _ _|exact LeO.refl _|exact LeO.none _|refine LeO.ite ?_ ?_|refine LeO.bind ?_ (fun _=>?_)
theorem impl_IsValidProblem_1.calls (k:Nat) (a0_0:Int) (a0_1:ByteArray) (a0_2:ByteArray) (a0_3:Int) (a0_4:ByteArray) (A0_5:Option Addr) (c0_5:Nat) (l0_5:List (S32)) (A0_6:Option Addr) (c0_6:Nat) (l0_6:List Int) (a0_7:Int) (r:Bool) (w:World) (hr0_5:Kd.C k32 w A0_5 l0_5.length l0_5) (hc0_5:l0_5.length≤c0_5) (hr0_6:Kd.C (Kd.int .i64) w A0_6 l0_6.length l0_6) (hc0_6:l0_6.length≤c0_6) (h:impl_IsValidProblem_1.f k a0_0 a0_1 a0_2 a0_3 a0_4 l0_5 l0_6 a0_7=some r) :
  Calls Tryd.prog 55 #[.agg #[.int .i64 a0_0,.string a0_1,.string a0_2,.int .i64 a0_3,.string a0_4,.slice A0_5 l0_5.length c0_5,.slice A0_6 l0_6.length c0_6,.int .i64 a0_7]] w fun e w'=>e = .returned (.bool r)∧Below w.heap.size w w':=by
 have hu34:=Tryd.underlying34
 have HR0_5:=zk hr0_5
 have HC0_5:=zk hc0_5
 clear hr0_5 hc0_5
 have HR0_6:=zk hr0_6
 have HC0_6:=zk hc0_6
 clear hr0_6 hc0_6
 have HB:=zk (Below.refl w.heap.size w)
 have H:((impl_IsValidConstraint.f k a0_0 a0_1 a0_2 a0_3 a0_4 l0_5 l0_6 a0_7).bind fun t55002=>(some (!t55002)))=some r:=h
 clear h
 replace H:=zo H
 obtain ⟨t55002,A20,H⟩:=H
 replace H:(some (!t55002))=some r:=H
 have A2:=zk A20
 clear A20
 obtain rfl:=zi H
 go_enter Tryd.func55,Tryd.ntmps55
 go_wp2_with (first|((with_reducible refine gate_dst (N:=1) rfl ?_);refine zE (N:=1) (cs:=#[.int .i64 a0_0,.string a0_1,.string a0_2,.int .i64 a0_3,.string a0_4,.slice A0_5 l0_5.length c0_5,.slice A0_6 l0_6.length c0_6,.int .i64 a0_7]) (t:=34) ?_;intro gb55001 hg w3 hbox hb;have n0_:=zk (below_step za2 hb);have n1_:=zk (hbox);have n2_:=zk (zs (w:=w) hg za2);have n3_:=zk (zs (w:=w) hg za2);clear HB;have HB:=n0_;have BK55001:=n1_;have GW55001:=n2_;have GE55001:=n3_;clear n0_ n1_ n2_ n3_;clear hb hbox hg;obtain ⟨hcz4_0,hcz4_1,hcz4_2,hcz4_3,hcz4_4,hcz4_5,hcz4_6,hcz4_7,hfz4_0,hfz4_1,hfz4_2,hfz4_3,hfz4_4,hfz4_5,hfz4_6,hfz4_7⟩:=blk8 BK55001.out)|((with_reducible refine gate_callee (f:=23) rfl ?_);refine goesL_ (some 4) rfl rfl Tryd.func23 (by kernel_rfl) rfl #[.agg #[.int .i64 a0_0,.string a0_1,.string a0_2,.int .i64 a0_3,.string a0_4,.slice A0_5 l0_5.length c0_5,.slice A0_6 l0_6.length c0_6,.int .i64 a0_7]] rfl za5 ?_;(with_reducible refine (impl_IsValidConstraint.calls k a0_0 a0_1 a0_2 a0_3 a0_4 _ _ l0_5 _ _ l0_6 a0_7 t55002 _ ?side1 ?side2 ?side3 ?side4 A2.out).mono ?_);(case side1=>repeat (first|exact (Kd.C_below HR0_5.out HB.out)|(with_reducible refine Kd.C_alloc ?_ _)|(with_reducible refine Kd.C_drewN ?_ _)|(with_reducible refine Kd.C_drew ?_)));(case side2=>exact HC0_5.out);(case side3=>repeat (first|exact (Kd.C_below HR0_6.out HB.out)|(with_reducible refine Kd.C_alloc ?_ _)|(with_reducible refine Kd.C_drewN ?_ _)|(with_reducible refine Kd.C_drew ?_)));(case side4=>exact HC0_6.out);rintro e w5 ⟨rfl,hb⟩;refine ⟨_,rfl,?_⟩;have n0_:=zk (zb BK55001.out hb);have n1_:=zk (below_step za2 hb);clear BK55001;clear HB;have BK55001:=n0_;have HB:=n1_;clear n0_ n1_;(try clear hb);(try clear hb2);(try clear hk);(try clear hi)))
 go_ret
 exact ⟨za6,za2⟩
def impl_Constraint_69.l0:Nat→List (S34)→Int→Int→Option (Int)
 | 0,_,_,_=>none
 | k+1,x0,x7,x8=>if x8 < x7 then (if 0≤x8 then (if x8 < (x0.length:Int) then ((impl_IsValidProblem_1.f k ((rd_T34 x0 x8).f0) ((rd_T34 x0 x8).f1) ((rd_T34 x0 x8).f2) ((rd_T34 x0 x8).f3.f0) ((rd_T34 x0 x8).f3.f1) ((rd_T34 x0 x8).f3.f2) ((rd_T34 x0 x8).f4) ((rd_T34 x0 x8).f5)).bind fun t69002=>(if t69002=true then (some x8) else (impl_Constraint_69.l0 k x0 x7 (wrap64 (x8+1))))) else (none)) else (none)) else (some (-1))
def impl_Constraint_69.f (k:Nat) (l0:List (S34)):Option (Int):=impl_Constraint_69.l0 k l0 (l0.length:Int) 0
theorem impl_Constraint_69.mono_l:∀ k,(∀ y0 y1 y2,LeO (impl_Constraint_69.l0 k y0 y1 y2) (impl_Constraint_69.l0 (k+1) y0 y1 y2))
 | 0=>fun _ _ _ r h=>by simp [impl_Constraint_69.l0] at h
 | k+1=>by
  have ih0:=impl_Constraint_69.mono_l k
  ·intro y0 y1 y2
   unfold impl_Constraint_69.l0
   repeat' first
   | with_reducible first|exact ih0 _ _ _|exact impl_IsValidProblem_1.mono _ _ _ _ _ _ _ _ _|exact LeO.refl _|exact LeO.none _|refine LeO.ite ?_ ?_|refine LeO.bind ?_ (fun _=>?_)
theorem impl_Constraint_69.mono:∀ a0 k,LeO (impl_Constraint_69.f k a0) (impl_Constraint_69.f (k+1) a0):=by
 intro a0 k
 have ih0:=impl_Constraint_69.mono_l k
 unfold impl_Constraint_69.f
 repeat' first
  | with_reducible first|exact ih0 _ _ _|exact impl_IsValidProblem_1.mono _ _ _ _ _ _ _ _ _|exact LeO.refl _|exact LeO.none _|refine LeO.ite ?_ ?_|refine LeO.bind ?_ (fun _=>?_)
theorem impl_Constraint_69.calls (k:Nat) (A0:Option Addr) (c0:Nat) (l0:List (S34)) (r:Int) (w:World) (hr0:Kd.C k34 w A0 l0.length l0) (hc0:l0.length≤c0) (h:impl_Constraint_69.f k l0=some r) :
   Calls Tryd.prog 69 #[.slice A0 l0.length c0,.func (.func 55) #[] #[]] w fun e w'=>e = .returned (.int .i64 r)∧Below w.heap.size w w':=by
 have hu34:=Tryd.underlying34
 have HR0:=zk hr0
 have HC0:=zk hc0
 clear hr0 hc0
 have HB:=zk (Below.refl w.heap.size w)
 have H:(impl_Constraint_69.l0 k l0 (l0.length:Int) 0)=some r:=h
 clear h
 have H':=zk H
 clear H
 go_enter Tryd.func69,Tryd.ntmps69
 go_wp2
 first|go_loopg [8] k (fun kq v8 w'=>∃ (x8_1:Int),v8 = .int .i64 x8_1∧Aside0 (impl_Constraint_69.l0 kq l0 (l0.length:Int) x8_1=some r)∧Aside0 (kq≤k)∧Aside0 (Below w.heap.size w w'))|(simp only [Act.put,zt,zv,zu];go_loopg [8] k (fun kq v8 w'=>∃ (x8_1:Int),v8 = .int .i64 x8_1∧Aside0 (impl_Constraint_69.l0 kq l0 (l0.length:Int) x8_1=some r)∧Aside0 (kq≤k)∧Aside0 (Below w.heap.size w w')))
 case atStart=>exact ⟨(0),za7,H',⟨Nat.le_refl _⟩,⟨za2⟩⟩
 case round =>
  clear H'
  obtain ⟨x8_1,rfl,HA,HK1,HB⟩:=hrel
  cases gk with
  | zero=>exact absurd HA.out (by simp [impl_Constraint_69.l0])
  | succ k1 =>
   have H:=HA.out
   clear HA
   simp only [impl_Constraint_69.l0] at H
   by_cases c2:x8_1 < (l0.length:Int)
   rw [if_pos c2] at H
   have c2b0:decide (x8_1 < (l0.length:Int))=true:=decide_eq_true c2
   clear c2
   by_cases c3:0≤x8_1
   rw [if_pos c3] at H
   have c3b0:decide (0≤x8_1)=true:=decide_eq_true c3
   clear c3
   by_cases c4:x8_1 < (l0.length:Int)
   rw [if_pos c4] at H
   have c4b0:decide (x8_1 < (l0.length:Int))=true:=decide_eq_true c4
   clear c4
   replace H:=zo H
   obtain ⟨t69002,A50,H⟩:=H
   replace H:(if t69002=true then (some x8_1) else (impl_Constraint_69.l0 k1 l0 (l0.length:Int) (wrap64 (x8_1+1))))=some r:=H
   have A5:=zk A50
   clear A50
   by_cases c6:t69002=true
   subst c6
   have H1:(some x8_1)=some r:=by rw [if_pos rfl] at H;exact H
   clear H
   have H:=H1
   clear H1
   obtain rfl:=zi H
   have fin0_:=zk trivial
   rotate_left
   replace c6:=Bool.eq_false_iff.mpr c6
   subst c6
   have H1:(impl_Constraint_69.l0 k1 l0 (l0.length:Int) (wrap64 (x8_1+1)))=some r:=by rw [if_neg (show ¬ (false=true) by decide)] at H;exact H
   clear H
   have H:=H1
   clear H1
   have H':=zk H
   clear H
   have fin1_:=zk trivial
   rotate_left
   · rw [if_neg c4] at H
     exact absurd H (by simp)
   · rw [if_neg c3] at H
     exact absurd H (by simp)
   · rw [if_neg c2] at H
     have c2b0:decide (x8_1 < (l0.length:Int))=false:=decide_eq_false c2
     clear c2
     obtain rfl:=zi H
     go_wp2
     go_ret
     exact ⟨za6,za2⟩
   all_goals
    have p69001:0≤(x8_1:Int):=of_decide_eq_true za8
    have q69001:x8_1 < (l0.length:Int):=of_decide_eq_true za8
    obtain ⟨ad69001,A69001_5,c69001_5,A69001_6,c69001_6,e69001,hx69001_0,hx69001_1,hx69001_2,hx69001_3,hx69001_4,hx69001_5,hx69001_6,hx69001_7,hl69001_5,hi69001_5,hl69001_6,hi69001_6⟩:=at_T34 HR0.out x8_1 p69001 q69001
    cases e69001
    replace hx69001_0:=zx HB.out hx69001_0
    replace hx69001_1:=zx HB.out hx69001_1
    replace hx69001_2:=zx HB.out hx69001_2
    replace hx69001_3:=zx HB.out hx69001_3
    replace hx69001_4:=zx HB.out hx69001_4
    replace hx69001_5:=zx HB.out hx69001_5
    replace hx69001_6:=zx HB.out hx69001_6
    replace hx69001_7:=zx HB.out hx69001_7
    have HR69001_5:=zk hi69001_5
    have HC69001_5:=zk hl69001_5
    clear hi69001_5 hl69001_5
    have HR69001_6:=zk hi69001_6
    have HC69001_6:=zk hl69001_6
    clear hi69001_6 hl69001_6
    replace p69001:=eq_true p69001
    replace q69001:=eq_true q69001
    go_wp2_with (((with_reducible refine gate_dst (N:=16) rfl ?_);refine goesF_ (some 16) rfl rfl Tryd.func55 (by kernel_rfl) rfl #[.agg #[.int .i64 ((rd_T34 l0 x8_1).f0),.string ((rd_T34 l0 x8_1).f1),.string ((rd_T34 l0 x8_1).f2),.int .i64 ((rd_T34 l0 x8_1).f3.f0),.string ((rd_T34 l0 x8_1).f3.f1),.slice A69001_5 ((rd_T34 l0 x8_1).f3.f2).length c69001_5,.slice A69001_6 ((rd_T34 l0 x8_1).f4).length c69001_6,.int .i64 ((rd_T34 l0 x8_1).f5)]] rfl (by first|rfl|(go_simp;done)) za5 ?_;(with_reducible refine (impl_IsValidProblem_1.calls k1 ((rd_T34 l0 x8_1).f0) ((rd_T34 l0 x8_1).f1) ((rd_T34 l0 x8_1).f2) ((rd_T34 l0 x8_1).f3.f0) ((rd_T34 l0 x8_1).f3.f1) _ _ ((rd_T34 l0 x8_1).f3.f2) _ _ ((rd_T34 l0 x8_1).f4) ((rd_T34 l0 x8_1).f5) _ _ ?side1 ?side2 ?side3 ?side4 A5.out).mono ?_);(case side1=>repeat (first|exact (Kd.C_below HR69001_5.out HB.out)|(with_reducible refine Kd.C_alloc ?_ _)|(with_reducible refine Kd.C_drewN ?_ _)|(with_reducible refine Kd.C_drew ?_)));(case side2=>exact HC69001_5.out);(case side3=>repeat (first|exact (Kd.C_below HR69001_6.out HB.out)|(with_reducible refine Kd.C_alloc ?_ _)|(with_reducible refine Kd.C_drewN ?_ _)|(with_reducible refine Kd.C_drew ?_)));(case side4=>exact HC69001_6.out);rintro e w7 ⟨rfl,hb⟩;refine ⟨_,rfl,?_⟩;have n0_:=zk (below_step za2 hb);clear HB;have HB:=n0_;clear n0_;(try clear hb);(try clear hb2);(try clear hk);(try clear hi)))
    first
    | (
      clear fin0_
      go_ret
      exact ⟨za6,za2⟩)
    | (
      clear fin1_
      go_roundg k1
      case measure=>have:=HK1.out;omega
      case rel=>exact ⟨(wrap64 (x8_1+1)),za7,H',⟨za13⟩,⟨za2⟩⟩)
def impl_Constraint_54.f (k:Nat) (l0:List (S34)):Option (Bool):=(impl_Constraint_69.f k l0).bind fun t54001=>(some (decide (t54001 ≥ 0)))
theorem impl_Constraint_54.mono:∀ a0 k,LeO (impl_Constraint_54.f k a0) (impl_Constraint_54.f (k+1) a0):=by
 intro a0 k
 unfold impl_Constraint_54.f
 repeat' first
  | with_reducible first|exact impl_Constraint_69.mono _ _|exact LeO.refl _|exact LeO.none _|refine LeO.ite ?_ ?_|refine LeO.bind ?_ (fun _=>?_)
theorem impl_Constraint_54.calls (k:Nat) (A0:Option Addr) (c0:Nat) (l0:List (S34)) (r:Bool) (w:World) (hr0:Kd.C k34 w A0 l0.length l0) (hc0:l0.length≤c0) (h:impl_Constraint_54.f k l0=some r) :
  Calls Tryd.prog 54 #[.slice A0 l0.length c0,.func (.func 55) #[] #[]] w fun e w'=>e = .returned (.bool r)∧Below w.heap.size w w':=by
 have HR0:=zk hr0
 have HC0:=zk hc0
 clear hr0 hc0
 have HB:=zk (Below.refl w.heap.size w)
 have H:((impl_Constraint_69.f k l0).bind fun t54001=>(some (decide (t54001 ≥ 0))))=some r:=h
 clear h
 replace H:=zo H
 obtain ⟨t54001,A20,H⟩:=H
 replace H:(some (decide (t54001 ≥ 0)))=some r:=H
 have A2:=zk A20
 clear A20
 obtain rfl:=zi H
 go_enter Tryd.func54,Tryd.ntmps54
 go_wp2_with (first|((with_reducible refine gate_callee (f:=69) rfl ?_);refine goesL_ (some 7) rfl rfl Tryd.func69 (by kernel_rfl) rfl #[.slice A0 l0.length c0,.func (.func 55) #[] #[]] rfl za5 ?_;(with_reducible refine (impl_Constraint_69.calls k _ _ l0 t54001 _ ?side1 ?side2 A2.out).mono ?_);(case side1=>repeat (first|exact HR0.out|(with_reducible refine Kd.C_alloc ?_ _)|(with_reducible refine Kd.C_drewN ?_ _)|(with_reducible refine Kd.C_drew ?_)));(case side2=>exact HC0.out);rintro e w3 ⟨rfl,hb⟩;refine ⟨_,rfl,?_⟩;have n0_:=zk (below_step za2 hb);clear HB;have HB:=n0_;clear n0_;(try clear hb);(try clear hb2);(try clear hk);(try clear hi)))
 go_ret
 exact ⟨za6,za2⟩
def impl_IsValidProblem.f (k:Nat) (l0_0:List (S34)):Option (Bool):=if (l0_0.length:Int)≤6 then ((impl_Constraint_54.f k l0_0).bind fun t34002=>(some (!t34002))) else (some false)
theorem impl_IsValidProblem.mono:∀ a0 k,LeO (impl_IsValidProblem.f k a0) (impl_IsValidProblem.f (k+1) a0):=by
 intro a0 k
 unfold impl_IsValidProblem.f
 repeat' first
  | with_reducible first|exact impl_Constraint_54.mono _ _|exact LeO.refl _|exact LeO.none _|refine LeO.ite ?_ ?_|refine LeO.bind ?_ (fun _=>?_)
theorem impl_IsValidProblem.calls (k:Nat) (A0_0:Option Addr) (c0_0:Nat) (l0_0:List (S34)) (r:Bool) (w:World) (hr0_0:Kd.C k34 w A0_0 l0_0.length l0_0) (hc0_0:l0_0.length≤c0_0) (h:impl_IsValidProblem.f k l0_0=some r) :
   Calls Tryd.prog 34 #[.agg #[.slice A0_0 l0_0.length c0_0]] w fun e w'=>e = .returned (.bool r)∧Below w.heap.size w w':=by
 have hu45:=Tryd.underlying45
 have HR0_0:=zk hr0_0
 have HC0_0:=zk hc0_0
 clear hr0_0 hc0_0
 have HB:=zk (Below.refl w.heap.size w)
 have H:(if (l0_0.length:Int)≤6 then ((impl_Constraint_54.f k l0_0).bind fun t34002=>(some (!t34002))) else (some false))=some r:=h
 clear h
 by_cases c2:(l0_0.length:Int)≤6
 rw [if_pos c2] at H
 have c2b0:decide ((l0_0.length:Int)≤6)=true:=decide_eq_true c2
 have c2b1:decide (l0_0.length≤6)=true:=decide_eq_true (by omega)
 clear c2
 replace H:=zo H
 obtain ⟨t34002,A30,H⟩:=H
 replace H:(some (!t34002))=some r:=H
 have A3:=zk A30
 clear A30
 rotate_left
 rw [if_neg c2] at H
 have c2b0:decide ((l0_0.length:Int)≤6)=false:=decide_eq_false c2
 have c2b1:decide (l0_0.length≤6)=false:=decide_eq_false (by omega)
 clear c2
 rotate_left
 all_goals
  obtain rfl:=zi H
  go_enter Tryd.func34,Tryd.ntmps34
  go_wp2_with (first|((with_reducible refine gate_dst (N:=1) rfl ?_);refine zE (N:=1) (cs:=#[.slice A0_0 l0_0.length c0_0]) (t:=45) ?_;intro gb34001 hg w4 hbox hb;have n0_:=zk (below_step za2 hb);have n1_:=zk (hbox);have n2_:=zk (zs (w:=w) hg za2);have n3_:=zk (zs (w:=w) hg za2);clear HB;have HB:=n0_;have BK34001:=n1_;have GW34001:=n2_;have GE34001:=n3_;clear n0_ n1_ n2_ n3_;clear hb hbox hg;obtain ⟨hcz5_0,hfz5_0⟩:=blk1 BK34001.out)|(go_at_call 54;(with_reducible refine (impl_Constraint_54.calls k _ _ l0_0 t34002 _ ?side1 ?side2 A3.out).mono ?_);(case side1=>repeat (first|exact (Kd.C_below HR0_0.out HB.out)|(with_reducible refine Kd.C_alloc ?_ _)|(with_reducible refine Kd.C_drewN ?_ _)|(with_reducible refine Kd.C_drew ?_)));(case side2=>exact HC0_0.out);rintro e w6 ⟨rfl,hb⟩;have n0_:=zk (zb BK34001.out hb);have n1_:=zk (below_step za2 hb);clear BK34001;clear HB;have BK34001:=n0_;have HB:=n1_;clear n0_ n1_;(try clear hb);(try clear hb2);(try clear hk);(try clear hi)))
  go_ret
  exact ⟨za6,za2⟩
def impl_FormatProblem.l0:Nat→ByteArray→List (S34)→Int→Int→Option (ByteArray)
 | 0,_,_,_,_=>none
 | k+1,x3,x10,x11,x12=>if x12 < x11 then (if 0≤x12 then (if x12 < (x10.length:Int) then ((impl_FormatConstraint.f k ((rd_T34 x10 x12).f0) ((rd_T34 x10 x12).f1) ((rd_T34 x10 x12).f2) ((rd_T34 x10 x12).f3.f0) ((rd_T34 x10 x12).f3.f1) ((rd_T34 x10 x12).f3.f2) ((rd_T34 x10 x12).f4) ((rd_T34 x10 x12).f5)).bind fun t13005=>(if t13005.size+1≤9223372036854775807 then (if x3.size+(t13005 ++ (⟨#[10]⟩:ByteArray)).size≤9223372036854775807 then (impl_FormatProblem.l0 k (x3 ++ (t13005 ++ (⟨#[10]⟩:ByteArray))) x10 x11 (wrap64 (x12+1))) else (none)) else (none))) else (none)) else (none)) else (some x3)
def impl_FormatProblem.f (k:Nat) (l0_0:List (S34)):Option (ByteArray):=(impl_IsValidProblem.f k l0_0).bind fun t13002=>(if t13002=true then (impl_FormatProblem.l0 k (⟨#[]⟩:ByteArray) l0_0 (l0_0.length:Int) 0) else (some (⟨#[]⟩:ByteArray)))
theorem impl_FormatProblem.mono_l:∀ k,(∀ y0 y1 y2 y3,LeO (impl_FormatProblem.l0 k y0 y1 y2 y3) (impl_FormatProblem.l0 (k+1) y0 y1 y2 y3))
 | 0=>fun _ _ _ _ r h=>by simp [impl_FormatProblem.l0] at h
 | k+1=>by
  have ih0:=impl_FormatProblem.mono_l k
  ·intro y0 y1 y2 y3
   unfold impl_FormatProblem.l0
   repeat' first
   | with_reducible first|exact ih0 _ _ _ _|exact impl_FormatConstraint.mono _ _ _ _ _ _ _ _ _|exact impl_IsValidProblem.mono _ _|exact LeO.refl _|exact LeO.none _|refine LeO.ite ?_ ?_|refine LeO.bind ?_ (fun _=>?_)
theorem impl_FormatProblem.mono:∀ a0 k,LeO (impl_FormatProblem.f k a0) (impl_FormatProblem.f (k+1) a0):=by
 intro a0 k
 have ih0:=impl_FormatProblem.mono_l k
 unfold impl_FormatProblem.f
 repeat' first
  | with_reducible first|exact ih0 _ _ _ _|exact impl_FormatConstraint.mono _ _ _ _ _ _ _ _ _|exact impl_IsValidProblem.mono _ _|exact LeO.refl _|exact LeO.none _|refine LeO.ite ?_ ?_|refine LeO.bind ?_ (fun _=>?_)
theorem impl_FormatProblem.calls (k:Nat) (A0_0:Option Addr) (c0_0:Nat) (l0_0:List (S34)) (r:ByteArray) (w:World) (hr0_0:Kd.C k34 w A0_0 l0_0.length l0_0) (hc0_0:l0_0.length≤c0_0) (h:impl_FormatProblem.f k l0_0=some r) (hTb:Tb w) :
  Calls Tryd.prog 13 #[.agg #[.slice A0_0 l0_0.length c0_0]] w fun e w'=>e = .returned (.string r)∧Below w.heap.size w w':=by
 have HTb:=zk hTb
 clear hTb
 have hu45:=Tryd.underlying45
 have hu34:=Tryd.underlying34
 have HR0_0:=zk hr0_0
 have HC0_0:=zk hc0_0
 clear hr0_0 hc0_0
 have HB:=zk (Below.refl w.heap.size w)
 have H:((impl_IsValidProblem.f k l0_0).bind fun t13002=>(if t13002=true then (impl_FormatProblem.l0 k (⟨#[]⟩:ByteArray) l0_0 (l0_0.length:Int) 0) else (some (⟨#[]⟩:ByteArray))))=some r:=h
 clear h
 replace H:=zo H
 obtain ⟨t13002,A20,H⟩:=H
 replace H:(if t13002=true then (impl_FormatProblem.l0 k (⟨#[]⟩:ByteArray) l0_0 (l0_0.length:Int) 0) else (some (⟨#[]⟩:ByteArray)))=some r:=H
 have A2:=zk A20
 clear A20
 by_cases c3:t13002=true
 ·subst c3
  have H1:(impl_FormatProblem.l0 k (⟨#[]⟩:ByteArray) l0_0 (l0_0.length:Int) 0)=some r:=by rw [if_pos rfl] at H;exact H
  clear H
  have H:=H1
  clear H1
  have H':=zk H
  clear H
  go_enter Tryd.func13,Tryd.ntmps13
  go_wp2_with (first|((with_reducible refine gate_dst (N:=1) rfl ?_);refine zE (N:=1) (cs:=#[.slice A0_0 l0_0.length c0_0]) (t:=45) ?_;intro gb13001 hg w4 hbox hb;have n0_:=zk (below_step za2 hb);have n1_:=zk (hbox);have n2_:=zk (zs (w:=w) hg za2);have n3_:=zk (zs (w:=w) hg za2);clear HB;have HB:=n0_;have BK13001:=n1_;have GW13001:=n2_;have GE13001:=n3_;clear n0_ n1_ n2_ n3_;clear hb hbox hg;obtain ⟨hcz5_0,hfz5_0⟩:=blk1 BK13001.out)|((with_reducible refine gate_callee (f:=34) rfl ?_);refine goesL_ (some 7) rfl rfl Tryd.func34 (by kernel_rfl) rfl #[.agg #[.slice A0_0 l0_0.length c0_0]] rfl za5 ?_;(with_reducible refine (impl_IsValidProblem.calls k _ _ l0_0 _ _ ?side1 ?side2 A2.out).mono ?_);(case side1=>repeat (first|exact (Kd.C_below HR0_0.out HB.out)|(with_reducible refine Kd.C_alloc ?_ _)|(with_reducible refine Kd.C_drewN ?_ _)|(with_reducible refine Kd.C_drew ?_)));(case side2=>exact HC0_0.out);rintro e w6 ⟨rfl,hb⟩;refine ⟨_,rfl,?_⟩;have n0_:=zk (zb BK13001.out hb);have n1_:=zk (below_step za2 hb);clear BK13001;clear HB;have BK13001:=n0_;have HB:=n1_;clear n0_ n1_;(try clear hb);(try clear hb2);(try clear hk);(try clear hi);obtain ⟨hcz7_0,hfz7_0⟩:=blk1 BK13001.out))
  first|go_loopg [3,12] k (fun kq v3 v12 w'=>∃ (x3_1:ByteArray) (x12_1:Int),v3 = .string x3_1∧v12 = .int .i64 x12_1∧Aside0 (impl_FormatProblem.l0 kq x3_1 l0_0 (l0_0.length:Int) x12_1=some r)∧Aside0 (kq≤k)∧Aside0 (w'.heap[gb13001]? = some (.cells #[(.slice A0_0 l0_0.length c0_0)] 45 (0,0)))∧Aside0 (Below w.heap.size w w'))|(simp only [Act.put,zt,zv,zu];go_loopg [3,12] k (fun kq v3 v12 w'=>∃ (x3_1:ByteArray) (x12_1:Int),v3 = .string x3_1∧v12 = .int .i64 x12_1∧Aside0 (impl_FormatProblem.l0 kq x3_1 l0_0 (l0_0.length:Int) x12_1=some r)∧Aside0 (kq≤k)∧Aside0 (w'.heap[gb13001]? = some (.cells #[(.slice A0_0 l0_0.length c0_0)] 45 (0,0)))∧Aside0 (Below w.heap.size w w')))
  case atStart=>exact ⟨((⟨#[]⟩:ByteArray)),(0),za7,za7,H',⟨Nat.le_refl _⟩,⟨za0 BK13001.out⟩,⟨za2⟩⟩
  case round =>
   clear H'
   try clear c3
   try clear hcz5_0
   try clear hcz7_0
   try clear hfz5_0
   try clear hfz7_0
   obtain ⟨x3_1,x12_1,rfl,rfl,HA,HK1,BK13001,HB⟩:=hrel
   cases gk with
   | zero=>exact absurd HA.out (by simp [impl_FormatProblem.l0])
   | succ k1 =>
    have H:=HA.out
    clear HA
    simp only [impl_FormatProblem.l0] at H
    by_cases c8:x12_1 < (l0_0.length:Int)
    rw [if_pos c8] at H
    have c8b0:decide (x12_1 < (l0_0.length:Int))=true:=decide_eq_true c8
    clear c8
    by_cases c9:0≤x12_1
    rw [if_pos c9] at H
    have c9b0:decide (0≤x12_1)=true:=decide_eq_true c9
    clear c9
    by_cases c10:x12_1 < (l0_0.length:Int)
    rw [if_pos c10] at H
    have c10b0:decide (x12_1 < (l0_0.length:Int))=true:=decide_eq_true c10
    clear c10
    replace H:=zo H
    obtain ⟨t13005,A110,H⟩:=H
    replace H:(if t13005.size+1≤9223372036854775807 then (if x3_1.size+(t13005 ++ (⟨#[10]⟩:ByteArray)).size≤9223372036854775807 then (impl_FormatProblem.l0 k1 (x3_1 ++ (t13005 ++ (⟨#[10]⟩:ByteArray))) l0_0 (l0_0.length:Int) (wrap64 (x12_1+1))) else (none)) else (none))=some r:=H
    have A11:=zk A110
    clear A110
    by_cases c12:t13005.size+1≤9223372036854775807
    rw [if_pos c12] at H
    have c12z:=c12
    try simp at c12z
    try replace c12z:=eq_false (Nat.not_lt.2 c12z)
    have c12b0:=eq_true c12
    have c12b1:decide (t13005.size+1≤9223372036854775807)=true:=decide_eq_true c12
    try have c12b2:(9223372036854775807 < t13005.size+1)=False:=eq_false (Nat.not_lt.2 c12)
    by_cases c13:x3_1.size+(t13005 ++ (⟨#[10]⟩:ByteArray)).size≤9223372036854775807
    ·rw [if_pos c13] at H
     have c13z:=c13
     try simp at c13z
     try replace c13z:=eq_false (Nat.not_lt.2 c13z)
     have c13b0:=eq_true c13
     have c13b1:decide (x3_1.size+(t13005 ++ (⟨#[10]⟩:ByteArray)).size≤9223372036854775807)=true:=decide_eq_true c13
     try have c13y:(9223372036854775807 < x3_1.size+(t13005.size+1))=False:=eq_false (by have q_:=c13;simp only [ByteArray.size_append,show (⟨#[10]⟩:ByteArray).size=1 from rfl] at q_;omega)
     try have c13b2:(9223372036854775807 < x3_1.size+(t13005 ++ (⟨#[10]⟩:ByteArray)).size)=False:=eq_false (Nat.not_lt.2 c13)
     have H':=zk H
     clear H
     have p13003:0≤(x12_1:Int):=of_decide_eq_true za8
     have q13003:x12_1 < (l0_0.length:Int):=of_decide_eq_true za8
     obtain ⟨ad13003,A13003_5,c13003_5,A13003_6,c13003_6,e13003,hx13003_0,hx13003_1,hx13003_2,hx13003_3,hx13003_4,hx13003_5,hx13003_6,hx13003_7,hl13003_5,hi13003_5,hl13003_6,hi13003_6⟩:=at_T34 HR0_0.out x12_1 p13003 q13003
     cases e13003
     replace hx13003_0:=zx HB.out hx13003_0
     replace hx13003_1:=zx HB.out hx13003_1
     replace hx13003_2:=zx HB.out hx13003_2
     replace hx13003_3:=zx HB.out hx13003_3
     replace hx13003_4:=zx HB.out hx13003_4
     replace hx13003_5:=zx HB.out hx13003_5
     replace hx13003_6:=zx HB.out hx13003_6
     replace hx13003_7:=zx HB.out hx13003_7
     have HR13003_5:=zk hi13003_5
     have HC13003_5:=zk hl13003_5
     clear hi13003_5 hl13003_5
     have HR13003_6:=zk hi13003_6
     have HC13003_6:=zk hl13003_6
     clear hi13003_6 hl13003_6
     replace p13003:=eq_true p13003
     replace q13003:=eq_true q13003
     go_wp2_with (first|((with_reducible refine gate_dst (N:=5) rfl ?_);refine zE (N:=5) (cs:=#[.int .i64 0,.string (⟨#[]⟩:ByteArray),.string (⟨#[]⟩:ByteArray),.int .i64 0,.string (⟨#[]⟩:ByteArray),.slice none 0 0,.slice none 0 0,.int .i64 0]) (t:=34) ?_;intro gb13004 hg w14 hbox hb;have n0_:=zk (zb BK13001.out hb);have n1_:=zk (below_step za2 hb);have n2_:=zk (hbox);have n3_:=zk (zs (w:=w) hg za2);have n4_:=zk (zs (w:=w) hg za2);have n5_:=zk ((by rw [hg];exact Nat.ne_of_lt (zl BK13001.out):gb13001 ≠ gb13004));have n6_:=zk ((by rw [hg];exact Nat.ne_of_gt (zl BK13001.out):gb13004 ≠ gb13001));clear BK13001;clear HB;have BK13001:=n0_;have HB:=n1_;have BK13004:=n2_;have GW13004:=n3_;have GE13004:=n4_;have NB13001_13004:=n5_;have NB13004_13001:=n6_;clear n0_ n1_ n2_ n3_ n4_ n5_ n6_;clear hb hbox hg;have hnb15:=NB13004_13001.out;have hnc15:=NB13001_13004.out;obtain ⟨hcz16_0,hcz16_1,hcz16_2,hcz16_3,hcz16_4,hcz16_5,hcz16_6,hcz16_7,hfz16_0,hfz16_1,hfz16_2,hfz16_3,hfz16_4,hfz16_5,hfz16_6,hfz16_7⟩:=blk8 BK13004.out)|((with_reducible refine gate_callee (f:=8) rfl ?_);refine goesL_ (some 18) rfl rfl Tryd.func8 (by kernel_rfl) rfl #[.agg #[.int .i64 ((rd_T34 l0_0 x12_1).f0),.string ((rd_T34 l0_0 x12_1).f1),.string ((rd_T34 l0_0 x12_1).f2),.int .i64 ((rd_T34 l0_0 x12_1).f3.f0),.string ((rd_T34 l0_0 x12_1).f3.f1),.slice A13003_5 ((rd_T34 l0_0 x12_1).f3.f2).length c13003_5,.slice A13003_6 ((rd_T34 l0_0 x12_1).f4).length c13003_6,.int .i64 ((rd_T34 l0_0 x12_1).f5)]] rfl za5 ?_;(with_reducible refine (impl_FormatConstraint.calls k1 ((rd_T34 l0_0 x12_1).f0) ((rd_T34 l0_0 x12_1).f1) ((rd_T34 l0_0 x12_1).f2) ((rd_T34 l0_0 x12_1).f3.f0) ((rd_T34 l0_0 x12_1).f3.f1) _ _ ((rd_T34 l0_0 x12_1).f3.f2) _ _ ((rd_T34 l0_0 x12_1).f4) ((rd_T34 l0_0 x12_1).f5) t13005 _ ?side1 ?side2 ?side3 ?side4 A11.out (HTb.out.below za2)).mono ?_);(case side1=>exact Kd.C_below HR13003_5.out za2);(case side2=>exact HC13003_5.out);(case side3=>exact Kd.C_below HR13003_6.out za2);(case side4=>exact HC13003_6.out);rintro e w17 ⟨rfl,hb⟩;refine ⟨_,rfl,?_⟩;have n0_:=zk (blk_below (g:=gb13001) (o:=.cells #[.slice (some ad13003) l0_0.length c0_0] 45 (0,0)) (by (with_reducible repeat (first|refine blk_drewN ?_ _|refine blk_drew ?_|refine blk_alloc ?_ _));refine blk_far ?_ NB13001_13004.out _;(with_reducible repeat (first|refine blk_drewN ?_ _|refine blk_drew ?_|refine blk_alloc ?_ _));refine blk_far ?_ NB13001_13004.out _;(with_reducible repeat (first|refine blk_drewN ?_ _|refine blk_drew ?_|refine blk_alloc ?_ _));refine blk_far ?_ NB13001_13004.out _;(with_reducible repeat (first|refine blk_drewN ?_ _|refine blk_drew ?_|refine blk_alloc ?_ _));refine blk_far ?_ NB13001_13004.out _;(with_reducible repeat (first|refine blk_drewN ?_ _|refine blk_drew ?_|refine blk_alloc ?_ _));refine blk_far ?_ NB13001_13004.out _;(with_reducible repeat (first|refine blk_drewN ?_ _|refine blk_drew ?_|refine blk_alloc ?_ _));refine blk_far ?_ NB13001_13004.out _;(with_reducible repeat (first|refine blk_drewN ?_ _|refine blk_drew ?_|refine blk_alloc ?_ _));refine blk_far ?_ NB13001_13004.out _;(with_reducible repeat (first|refine blk_drewN ?_ _|refine blk_drew ?_|refine blk_alloc ?_ _));refine blk_far ?_ NB13001_13004.out _;(with_reducible repeat (first|refine blk_drewN ?_ _|refine blk_drew ?_|refine blk_alloc ?_ _));exact BK13001.out) hb);have n1_:=zk (blk_below (g:=gb13004) (o:=.cells #[.int .i64 ((rd_T34 l0_0 x12_1).f0),.string ((rd_T34 l0_0 x12_1).f1),.string ((rd_T34 l0_0 x12_1).f2),.int .i64 ((rd_T34 l0_0 x12_1).f3.f0),.string ((rd_T34 l0_0 x12_1).f3.f1),.slice A13003_5 ((rd_T34 l0_0 x12_1).f3.f2).length c13003_5,.slice A13003_6 ((rd_T34 l0_0 x12_1).f4).length c13003_6,.int .i64 ((rd_T34 l0_0 x12_1).f5)] 34 (0,0)) (by (with_reducible repeat (first|refine blk_drewN ?_ _|refine blk_drew ?_|refine blk_alloc ?_ _));refine blk_put (cs:=#[.int .i64 ((rd_T34 l0_0 x12_1).f0),.string ((rd_T34 l0_0 x12_1).f1),.string ((rd_T34 l0_0 x12_1).f2),.int .i64 ((rd_T34 l0_0 x12_1).f3.f0),.string ((rd_T34 l0_0 x12_1).f3.f1),.slice A13003_5 ((rd_T34 l0_0 x12_1).f3.f2).length c13003_5,.slice A13003_6 ((rd_T34 l0_0 x12_1).f4).length c13003_6,.int .i64 0]) ?_ 7 _ rfl;(with_reducible repeat (first|refine blk_drewN ?_ _|refine blk_drew ?_|refine blk_alloc ?_ _));refine blk_put (cs:=#[.int .i64 ((rd_T34 l0_0 x12_1).f0),.string ((rd_T34 l0_0 x12_1).f1),.string ((rd_T34 l0_0 x12_1).f2),.int .i64 ((rd_T34 l0_0 x12_1).f3.f0),.string ((rd_T34 l0_0 x12_1).f3.f1),.slice A13003_5 ((rd_T34 l0_0 x12_1).f3.f2).length c13003_5,.slice none 0 0,.int .i64 0]) ?_ 6 _ rfl;(with_reducible repeat (first|refine blk_drewN ?_ _|refine blk_drew ?_|refine blk_alloc ?_ _));refine blk_put (cs:=#[.int .i64 ((rd_T34 l0_0 x12_1).f0),.string ((rd_T34 l0_0 x12_1).f1),.string ((rd_T34 l0_0 x12_1).f2),.int .i64 ((rd_T34 l0_0 x12_1).f3.f0),.string ((rd_T34 l0_0 x12_1).f3.f1),.slice none 0 0,.slice none 0 0,.int .i64 0]) ?_ 5 _ rfl;(with_reducible repeat (first|refine blk_drewN ?_ _|refine blk_drew ?_|refine blk_alloc ?_ _));refine blk_put (cs:=#[.int .i64 ((rd_T34 l0_0 x12_1).f0),.string ((rd_T34 l0_0 x12_1).f1),.string ((rd_T34 l0_0 x12_1).f2),.int .i64 ((rd_T34 l0_0 x12_1).f3.f0),.string (⟨#[]⟩:ByteArray),.slice none 0 0,.slice none 0 0,.int .i64 0]) ?_ 4 _ rfl;(with_reducible repeat (first|refine blk_drewN ?_ _|refine blk_drew ?_|refine blk_alloc ?_ _));refine blk_put (cs:=#[.int .i64 ((rd_T34 l0_0 x12_1).f0),.string ((rd_T34 l0_0 x12_1).f1),.string ((rd_T34 l0_0 x12_1).f2),.int .i64 0,.string (⟨#[]⟩:ByteArray),.slice none 0 0,.slice none 0 0,.int .i64 0]) ?_ 3 _ rfl;(with_reducible repeat (first|refine blk_drewN ?_ _|refine blk_drew ?_|refine blk_alloc ?_ _));refine blk_put (cs:=#[.int .i64 ((rd_T34 l0_0 x12_1).f0),.string ((rd_T34 l0_0 x12_1).f1),.string (⟨#[]⟩:ByteArray),.int .i64 0,.string (⟨#[]⟩:ByteArray),.slice none 0 0,.slice none 0 0,.int .i64 0]) ?_ 2 _ rfl;(with_reducible repeat (first|refine blk_drewN ?_ _|refine blk_drew ?_|refine blk_alloc ?_ _));refine blk_put (cs:=#[.int .i64 ((rd_T34 l0_0 x12_1).f0),.string (⟨#[]⟩:ByteArray),.string (⟨#[]⟩:ByteArray),.int .i64 0,.string (⟨#[]⟩:ByteArray),.slice none 0 0,.slice none 0 0,.int .i64 0]) ?_ 1 _ rfl;(with_reducible repeat (first|refine blk_drewN ?_ _|refine blk_drew ?_|refine blk_alloc ?_ _));refine blk_put (cs:=#[.int .i64 0,.string (⟨#[]⟩:ByteArray),.string (⟨#[]⟩:ByteArray),.int .i64 0,.string (⟨#[]⟩:ByteArray),.slice none 0 0,.slice none 0 0,.int .i64 0]) ?_ 0 _ rfl;(with_reducible repeat (first|refine blk_drewN ?_ _|refine blk_drew ?_|refine blk_alloc ?_ _));exact BK13004.out) hb);have n2_:=zk (below_step za2 hb);clear BK13001;clear BK13004;clear HB;have BK13001:=n0_;have BK13004:=n1_;have HB:=n2_;clear n0_ n1_ n2_;(try clear hb);(try clear hb2);(try clear hk);(try clear hi)))
     go_roundg k1
     case measure=>have:=HK1.out;omega
     case rel=>exact ⟨(x3_1 ++ (t13005 ++ (⟨#[10]⟩:ByteArray))),(wrap64 (x12_1+1)),za7,za7,H',⟨za13⟩,⟨za0 BK13001.out⟩,⟨za2⟩⟩
    ·rw [if_neg c13] at H
     exact absurd H (by simp)
    ·rw [if_neg c12] at H
     exact absurd H (by simp)
    ·rw [if_neg c10] at H
     exact absurd H (by simp)
    ·rw [if_neg c9] at H
     exact absurd H (by simp)
    ·rw [if_neg c8] at H
     have c8b0:decide (x12_1 < (l0_0.length:Int))=false:=decide_eq_false c8
     clear c8
     obtain rfl:=zi H
     go_wp2
     go_ret
     exact ⟨za6,za2⟩
 ·replace c3:=Bool.eq_false_iff.mpr c3
  subst c3
  have H1:(some (⟨#[]⟩:ByteArray))=some r:=by rw [if_neg (show ¬ (false=true) by decide)] at H;exact H
  clear H
  have H:=H1
  clear H1
  obtain rfl:=zi H
  go_enter Tryd.func13,Tryd.ntmps13
  go_wp2_with (first|((with_reducible refine gate_dst (N:=1) rfl ?_);refine zE (N:=1) (cs:=#[.slice A0_0 l0_0.length c0_0]) (t:=45) ?_;intro gb13001 hg w18 hbox hb;have n0_:=zk (below_step za2 hb);have n1_:=zk (hbox);have n2_:=zk (zs (w:=w) hg za2);have n3_:=zk (zs (w:=w) hg za2);clear HB;have HB:=n0_;have BK13001:=n1_;have GW13001:=n2_;have GE13001:=n3_;clear n0_ n1_ n2_ n3_;clear hb hbox hg;obtain ⟨hcz19_0,hfz19_0⟩:=blk1 BK13001.out)|((with_reducible refine gate_callee (f:=34) rfl ?_);refine goesL_ (some 7) rfl rfl Tryd.func34 (by kernel_rfl) rfl #[.agg #[.slice A0_0 l0_0.length c0_0]] rfl za5 ?_;(with_reducible refine (impl_IsValidProblem.calls k _ _ l0_0 _ _ ?side1 ?side2 A2.out).mono ?_);(case side1=>repeat (first|exact (Kd.C_below HR0_0.out HB.out)|(with_reducible refine Kd.C_alloc ?_ _)|(with_reducible refine Kd.C_drewN ?_ _)|(with_reducible refine Kd.C_drew ?_)));(case side2=>exact HC0_0.out);rintro e w20 ⟨rfl,hb⟩;refine ⟨_,rfl,?_⟩;have n0_:=zk (zb BK13001.out hb);have n1_:=zk (below_step za2 hb);clear BK13001;clear HB;have BK13001:=n0_;have HB:=n1_;clear n0_ n1_;(try clear hb);(try clear hb2);(try clear hk);(try clear hi)))
  go_ret
  exact ⟨za6,za2⟩
def laws_FnExactFormatProblem.f (k:Nat) (l0_0:List (S27)):Option (Bool):=(laws_szProblem.f k l0_0 1048576).bind fun t4002=>(if t4002 < 0 then (some true) else ((laws_toProblem.f k l0_0).bind fun t4003=>((spec_FormatProblem.f k t4003).bind fun t4006=>((laws_toProblem.f k l0_0).bind fun t4007=>((impl_FormatProblem.f k t4007).bind fun t4011=>(if t4011.toList=t4006.toList then ((laws_toProblem.f k l0_0).bind fun t4012=>((laws_eqProblem.f k t4007 t4012).bind fun t4015=>(if t4015=true then (some true) else (some false)))) else (some false)))))))
theorem laws_FnExactFormatProblem.mono:∀ a0 k,LeO (laws_FnExactFormatProblem.f k a0) (laws_FnExactFormatProblem.f (k+1) a0):=by
 intro a0 k
 unfold laws_FnExactFormatProblem.f
 repeat' first
  | with_reducible first|exact impl_FormatProblem.mono _ _|exact laws_eqProblem.mono _ _ _|exact laws_szProblem.mono _ _ _|exact laws_toProblem.mono _ _|exact spec_FormatProblem.mono _ _|exact LeO.refl _|exact LeO.none _|refine LeO.ite ?_ ?_|refine LeO.bind ?_ (fun _=>?_)
theorem laws_FnExactFormatProblem.calls (k:Nat) (A0_0:Option Addr) (c0_0:Nat) (l0_0:List (S27)) (r:Bool) (w:World) (hr0_0:Kd.C k27 w A0_0 l0_0.length l0_0) (hc0_0:l0_0.length≤c0_0) (h:laws_FnExactFormatProblem.f k l0_0=some r) (hr_:r=true) (hTb:Tb w) :
  Calls Tryd.prog 4 #[.agg #[.slice A0_0 l0_0.length c0_0]] w fun e w'=>e = .returned (.bool r)∧Below w.heap.size w w':=by
 have HTb:=zk hTb
 clear hTb
 have HRT_:=zk hr_
 clear hr_
 have hu40:=Tryd.underlying40
 have hu45:=Tryd.underlying45
 have HR0_0:=zk hr0_0
 have HC0_0:=zk hc0_0
 clear hr0_0 hc0_0
 have HB:=zk (Below.refl w.heap.size w)
 have H:((laws_szProblem.f k l0_0 1048576).bind fun t4002=>(if t4002 < 0 then (some true) else ((laws_toProblem.f k l0_0).bind fun t4003=>((spec_FormatProblem.f k t4003).bind fun t4006=>((laws_toProblem.f k l0_0).bind fun t4007=>((impl_FormatProblem.f k t4007).bind fun t4011=>(if t4011.toList=t4006.toList then ((laws_toProblem.f k l0_0).bind fun t4012=>((laws_eqProblem.f k t4007 t4012).bind fun t4015=>(if t4015=true then (some true) else (some false)))) else (some false))))))))=some r:=h
 clear h
 replace H:=zo H
 obtain ⟨t4002,A20,H⟩:=H
 replace H:(if t4002 < 0 then (some true) else ((laws_toProblem.f k l0_0).bind fun t4003=>((spec_FormatProblem.f k t4003).bind fun t4006=>((laws_toProblem.f k l0_0).bind fun t4007=>((impl_FormatProblem.f k t4007).bind fun t4011=>(if t4011.toList=t4006.toList then ((laws_toProblem.f k l0_0).bind fun t4012=>((laws_eqProblem.f k t4007 t4012).bind fun t4015=>(if t4015=true then (some true) else (some false)))) else (some false)))))))=some r:=H
 have A2:=zk A20
 clear A20
 by_cases c3:t4002 < 0
 ·rw [if_pos c3] at H
  have c3b0:decide (t4002 < 0)=true:=decide_eq_true c3
  clear c3
  obtain rfl:=zi H
  go_enter Tryd.func4,Tryd.ntmps4
  go_wp2_with (first|((with_reducible refine gate_dst (N:=1) rfl ?_);refine zE (N:=1) (cs:=#[.slice A0_0 l0_0.length c0_0]) (t:=40) ?_;intro gb4001 hg w4 hbox hb;have n0_:=zk (below_step za2 hb);have n1_:=zk (hbox);have n2_:=zk (zs (w:=w) hg za2);have n3_:=zk (zs (w:=w) hg za2);clear HB;have HB:=n0_;have BK4001:=n1_;have GW4001:=n2_;have GE4001:=n3_;clear n0_ n1_ n2_ n3_;clear hb hbox hg;obtain ⟨hcz5_0,hfz5_0⟩:=blk1 BK4001.out)|((with_reducible refine gate_callee (f:=10) rfl ?_);refine goesL_ (some 9) rfl rfl Tryd.func10 (by kernel_rfl) rfl #[.agg #[.slice A0_0 l0_0.length c0_0],.int .i64 1048576] rfl za5 ?_;(with_reducible refine (laws_szProblem.calls k _ _ l0_0 1048576 t4002 _ ?side1 ?side2 A2.out).mono ?_);(case side1=>repeat (first|exact (Kd.C_below HR0_0.out HB.out)|(with_reducible refine Kd.C_alloc ?_ _)|(with_reducible refine Kd.C_drewN ?_ _)|(with_reducible refine Kd.C_drew ?_)));(case side2=>exact HC0_0.out);rintro e w6 ⟨rfl,hb⟩;refine ⟨_,rfl,?_⟩;have n0_:=zk (zb BK4001.out hb);have n1_:=zk (below_step za2 hb);clear BK4001;clear HB;have BK4001:=n0_;have HB:=n1_;clear n0_ n1_;(try clear hb);(try clear hb2);(try clear hk);(try clear hi)))
  go_ret
  exact ⟨za6,za2⟩
 rw [if_neg c3] at H
 have c3b0:decide (t4002 < 0)=false:=decide_eq_false c3
 clear c3
 replace H:=zo H
 obtain ⟨t4003,A70,H⟩:=H
 replace H:((spec_FormatProblem.f k t4003).bind fun t4006=>((laws_toProblem.f k l0_0).bind fun t4007=>((impl_FormatProblem.f k t4007).bind fun t4011=>(if t4011.toList=t4006.toList then ((laws_toProblem.f k l0_0).bind fun t4012=>((laws_eqProblem.f k t4007 t4012).bind fun t4015=>(if t4015=true then (some true) else (some false)))) else (some false)))))=some r:=H
 have A7:=zk A70
 clear A70
 replace H:=zo H
 obtain ⟨t4006,A80,H⟩:=H
 replace H:((laws_toProblem.f k l0_0).bind fun t4007=>((impl_FormatProblem.f k t4007).bind fun t4011=>(if t4011.toList=t4006.toList then ((laws_toProblem.f k l0_0).bind fun t4012=>((laws_eqProblem.f k t4007 t4012).bind fun t4015=>(if t4015=true then (some true) else (some false)))) else (some false))))=some r:=H
 have A8:=zk A80
 clear A80
 replace H:=zo H
 obtain ⟨t4007,A90,H⟩:=H
 replace H:((impl_FormatProblem.f k t4007).bind fun t4011=>(if t4011.toList=t4006.toList then ((laws_toProblem.f k l0_0).bind fun t4012=>((laws_eqProblem.f k t4007 t4012).bind fun t4015=>(if t4015=true then (some true) else (some false)))) else (some false)))=some r:=H
 have A9:=zk A90
 clear A90
 replace H:=zo H
 obtain ⟨t4011,A100,H⟩:=H
 replace H:(if t4011.toList=t4006.toList then ((laws_toProblem.f k l0_0).bind fun t4012=>((laws_eqProblem.f k t4007 t4012).bind fun t4015=>(if t4015=true then (some true) else (some false)))) else (some false))=some r:=H
 have A10:=zk A100
 clear A100
 by_cases c11:t4011.toList=t4006.toList
 rw [if_pos c11] at H
 have c11b0:(t4011.toList == t4006.toList)=true:=beq_iff_eq.mpr c11
 have c11b1:(t4011.toList != t4006.toList)=false:=bne_eq_false_iff_eq.mpr c11
 clear c11
 replace H:=zo H
 obtain ⟨t4012,A120,H⟩:=H
 replace H:((laws_eqProblem.f k t4007 t4012).bind fun t4015=>(if t4015=true then (some true) else (some false)))=some r:=H
 have A12:=zk A120
 clear A120
 replace H:=zo H
 obtain ⟨t4015,A130,H⟩:=H
 replace H:(if t4015=true then (some true) else (some false))=some r:=H
 have A13:=zk A130
 clear A130
 by_cases c14:t4015=true
 ·subst c14
  have H1:(some true)=some r:=by rw [if_pos rfl] at H;exact H
  clear H
  have H:=H1
  clear H1
  obtain rfl:=zi H
  go_enter Tryd.func4,Tryd.ntmps4
  try go_wp2_with (first|((with_reducible refine gate_dst (N:=1) rfl ?_);refine zE (N:=1) (cs:=#[.slice A0_0 l0_0.length c0_0]) (t:=40) ?_;intro gb4001 hg w15 hbox hb;have n0_:=zk (below_step za2 hb);have n1_:=zk (hbox);have n2_:=zk (zs (w:=w) hg za2);have n3_:=zk (zs (w:=w) hg za2);clear HB;have HB:=n0_;have BK4001:=n1_;have GW4001:=n2_;have GE4001:=n3_;clear n0_ n1_ n2_ n3_;clear hb hbox hg;obtain ⟨hcz16_0,hfz16_0⟩:=blk1 BK4001.out)|((with_reducible refine gate_callee (f:=10) rfl ?_);refine goesL_ (some 9) rfl rfl Tryd.func10 (by kernel_rfl) rfl #[.agg #[.slice A0_0 l0_0.length c0_0],.int .i64 1048576] rfl za5 ?_;(with_reducible refine (laws_szProblem.calls k _ _ l0_0 1048576 t4002 _ ?side1 ?side2 A2.out).mono ?_);(case side1=>repeat (first|exact (Kd.C_below HR0_0.out HB.out)|(with_reducible refine Kd.C_alloc ?_ _)|(with_reducible refine Kd.C_drewN ?_ _)|(with_reducible refine Kd.C_drew ?_)));(case side2=>exact HC0_0.out);rintro e w17 ⟨rfl,hb⟩;refine ⟨_,rfl,?_⟩;have n0_:=zk (zb BK4001.out hb);have n1_:=zk (below_step za2 hb);clear BK4001;clear HB;have BK4001:=n0_;have HB:=n1_;clear n0_ n1_;(try clear hb);(try clear hb2);(try clear hk);(try clear hi);obtain ⟨hcz18_0,hfz18_0⟩:=blk1 BK4001.out)|((with_reducible refine gate_callee (f:=12) rfl ?_);refine goesL_ (some 13) rfl rfl Tryd.func12 (by kernel_rfl) rfl #[.agg #[.slice A0_0 l0_0.length c0_0]] rfl za5 ?_;(with_reducible refine (laws_toProblem.calls k _ _ l0_0 t4003 _ ?side1 ?side2 A7.out).mono ?_);(case side1=>repeat (first|exact (Kd.C_below HR0_0.out HB.out)|(with_reducible refine Kd.C_alloc ?_ _)|(with_reducible refine Kd.C_drewN ?_ _)|(with_reducible refine Kd.C_drew ?_)));(case side2=>exact HC0_0.out);rintro e w19 ⟨v4004,rfl,ho0,hb⟩;refine ⟨_,rfl,?_⟩;have n0_:=zk (Kd.R_lower ho0 (below_size za2));have n1_:=zk (zb BK4001.out hb);have n2_:=zk (below_step za2 hb);clear BK4001;clear HB;have HO4005:=n0_;have BK4001:=n1_;have HB:=n2_;clear n0_ n1_ n2_;(try clear hb);(try clear hb2);(try clear hk);(try clear hi);(try clear ho0);obtain ⟨Ao20,co20,eo20⟩:=Kd.R_slice HO4005.out;subst eo20)|((with_reducible refine gate_callee (f:=11) rfl ?_);refine goesL_ (some 14) rfl rfl Tryd.func11 (by kernel_rfl) rfl #[.agg #[.slice Ao20 t4003.length co20]] rfl za5 ?_;(with_reducible refine (spec_FormatProblem.calls k _ _ t4003 t4006 _ ?side1 ?side2 A8.out).mono ?_);(case side1=>repeat (first|exact (Kd.R_reads' HO4005.out).2.2|(with_reducible refine Kd.C_alloc ?_ _)|(with_reducible refine Kd.C_drewN ?_ _)|(with_reducible refine Kd.C_drew ?_)));(case side2=>exact (Kd.R_reads' HO4005.out).2.1);rintro e w21 ⟨rfl,hb⟩;refine ⟨_,rfl,?_⟩;have n0_:=zk (Kd.R_below (za1 HO4005.out) hb);have n1_:=zk (zb BK4001.out hb);have n2_:=zk (below_step za2 hb);clear HO4005;clear BK4001;clear HB;have HO4005:=n0_;have BK4001:=n1_;have HB:=n2_;clear n0_ n1_ n2_;(try clear hb);(try clear hb2);(try clear hk);(try clear hi);obtain ⟨hcz22_0,hfz22_0⟩:=blk1 BK4001.out)|((with_reducible refine gate_callee (f:=12) rfl ?_);refine goesL_ (some 16) rfl rfl Tryd.func12 (by kernel_rfl) rfl #[.agg #[.slice A0_0 l0_0.length c0_0]] rfl za5 ?_;(with_reducible refine (laws_toProblem.calls k _ _ l0_0 t4007 _ ?side1 ?side2 A9.out).mono ?_);(case side1=>repeat (first|exact (Kd.C_below HR0_0.out HB.out)|(with_reducible refine Kd.C_alloc ?_ _)|(with_reducible refine Kd.C_drewN ?_ _)|(with_reducible refine Kd.C_drew ?_)));(case side2=>exact HC0_0.out);rintro e w23 ⟨v4008,rfl,ho0,hb⟩;refine ⟨_,rfl,?_⟩;have n0_:=zk (Kd.R_elder' (za1 HO4005.out) (Kd.R_base ho0) hb);have n1_:=zk (Kd.R_lower (Kd.R_new' ho0 (Kd.R_lt (za1 HO4005.out))) (below_size za2));have n2_:=zk (zb BK4001.out hb);have n3_:=zk (below_step za2 hb);clear HO4005;clear BK4001;clear HB;have HO4005:=n0_;have HO4009:=n1_;have BK4001:=n2_;have HB:=n3_;clear n0_ n1_ n2_ n3_;(try clear hb);(try clear hb2);(try clear hk);(try clear hi);(try clear ho0))|((with_reducible refine gate_dst (N:=5) rfl ?_);refine zE (N:=5) (cs:=#[.slice none 0 0]) (t:=45) ?_;intro gb4010 hg w24 hbox hb;have n0_:=zk (Kd.R_below (za1 HO4005.out) hb);have n1_:=zk (Kd.R_below (za1 HO4009.out) hb);have n2_:=zk (zb BK4001.out hb);have n3_:=zk (below_step za2 hb);have n4_:=zk (hbox);have n5_:=zk (zs (w:=w) hg za2);have n6_:=zk (zs (w:=w) hg za2);have n7_:=zk ((by rw [hg];exact Nat.ne_of_lt (zl BK4001.out):gb4001 ≠ gb4010));have n8_:=zk ((by rw [hg];exact Nat.ne_of_gt (zl BK4001.out):gb4010 ≠ gb4001));clear HO4005;clear HO4009;clear BK4001;clear HB;have HO4005:=n0_;have HO4009:=n1_;have BK4001:=n2_;have HB:=n3_;have BK4010:=n4_;have GW4010:=n5_;have GE4010:=n6_;have NB4001_4010:=n7_;have NB4010_4001:=n8_;clear n0_ n1_ n2_ n3_ n4_ n5_ n6_ n7_ n8_;clear hb hbox hg;obtain ⟨Ao25,co25,eo25⟩:=Kd.R_slice HO4009.out;subst eo25;have hnb26:=NB4010_4001.out;have hnc26:=NB4001_4010.out;obtain ⟨hcz27_0,hfz27_0⟩:=blk1 BK4010.out)|((with_reducible refine gate_callee (f:=13) rfl ?_);refine goesL_ (some 18) rfl rfl Tryd.func13 (by kernel_rfl) rfl #[.agg #[.slice Ao25 t4007.length co25]] rfl za5 ?_;(with_reducible refine (impl_FormatProblem.calls k _ _ t4007 t4011 _ ?side1 ?side2 A10.out (HTb.out.below za2)).mono ?_);(case side1=>refine (Kd.R_reads' (e:=34) (base:=w.heap.size) (ok:=fun k_=>(True∧some k_ ≠ (.slice Ao20 t4003.length co20:Value).ownBlock)) (n:=t4007.length) (c:=co25) ?_).2.2;exact za19);(case side2=>exact (Kd.R_reads' HO4009.out).2.1);rintro e w28 ⟨rfl,hb⟩;refine ⟨_,rfl,?_⟩;have n0_:=zk (Kd.R_below (by (with_reducible repeat (first|apply Kd.R_alloc|apply Kd.R_drewN|apply Kd.R_drew));exact (Kd.R_mono (Kd.R_far (p:=⟨gb4010,0,none⟩) (Kd.R_types HO4005.out BK4010.out (by decide)) (fun _ hk=>hk.2) (.slice Ao25 t4007.length co25)) (fun _ h_=>h_.1))) hb);have n1_:=zk (Kd.R_below za19 hb);have n2_:=zk (blk_below (g:=gb4001) (o:=.cells #[.slice A0_0 l0_0.length c0_0] 40 (0,0)) (by (with_reducible repeat (first|refine blk_drewN ?_ _|refine blk_drew ?_|refine blk_alloc ?_ _));refine blk_far ?_ NB4001_4010.out _;(with_reducible repeat (first|refine blk_drewN ?_ _|refine blk_drew ?_|refine blk_alloc ?_ _));exact BK4001.out) hb);have n3_:=zk (blk_below (g:=gb4010) (o:=.cells #[.slice Ao25 t4007.length co25] 45 (0,0)) (by (with_reducible repeat (first|refine blk_drewN ?_ _|refine blk_drew ?_|refine blk_alloc ?_ _));refine blk_put (cs:=#[.slice none 0 0]) ?_ 0 _ rfl;(with_reducible repeat (first|refine blk_drewN ?_ _|refine blk_drew ?_|refine blk_alloc ?_ _));exact BK4010.out) hb);have n4_:=zk (below_step za2 hb);clear HO4005;clear HO4009;clear BK4001;clear BK4010;clear HB;have HO4005:=n0_;have HO4009:=n1_;have BK4001:=n2_;have BK4010:=n3_;have HB:=n4_;clear n0_ n1_ n2_ n3_ n4_;(try clear hb);(try clear hb2);(try clear hk);(try clear hi)))
  have n0_:=zk (Kd.R_drew HO4005.out)
  have n1_:=zk (Kd.R_drew HO4009.out)
  have n2_:=zk (blk_drew BK4001.out)
  have n3_:=zk (blk_drew BK4010.out)
  have n4_:=zk (below_drew1 HB.out)
  clear HO4005
  clear HO4009
  clear BK4001
  clear BK4010
  clear HB
  have HO4005:=n0_
  have HO4009:=n1_
  have BK4001:=n2_
  have BK4010:=n3_
  have HB:=n4_
  clear n0_ n1_ n2_ n3_ n4_
  refine start_ (n:=5) (S:=fun w'=>w'.cell? ⟨gb4010,0,none⟩=some (.slice Ao25 t4007.length co25)∧w'.cell? ⟨gb4001,0,none⟩=some (.slice A0_0 l0_0.length c0_0)) (ds:=[]) #[false,false,false,false,false] (by kernel_rfl) rfl rfl ⟨(blk_cell BK4010.out 0).trans rfl,(blk_cell BK4001.out 0).trans rfl⟩ (fun hHeld=>?_)
  generalize w28.drew=w29 at HO4005 HO4009 BK4001 BK4010 HB hHeld ⊢
  refine take_ (i:=0) (N:=some 22) (v:=?_) (a':=?_) #[true,false,false,false,false] rfl rfl (by kernel_rfl) (fun _ _ _ h=>h) (Or.inl ⟨by rfl,?_⟩) hHeld ?_ ?_
  rotate_left
  ·rintro w' ⟨s0,s1⟩
   go_simp
   exact zr0
  rotate_left
  ·simp only [Act.put,zt,zu,zv,i64_w,i32_w]
   rfl
  refine take_ (i:=1) (N:=some 23) (v:=?_) (a':=?_) #[true,true,false,false,false] rfl rfl (by kernel_rfl) (fun _ _ _ h=>h) (Or.inl ⟨by rfl,?_⟩) hHeld ?_ ?_
  rotate_left
  ·rintro w' ⟨s0,s1⟩
   go_simp
   exact zr0
  rotate_left
  ·simp only [Act.put,zt,zu,zv,i64_w,i32_w]
   rfl
  refine one_ (i:=2) (N:=some 24) #[true,true,true,false,false] rfl rfl (by kernel_rfl) (by decide) (fun K hK=>?_)
  refine goes_ Tryd.func12 (by kernel_rfl) rfl #[.agg #[.slice A0_0 l0_0.length c0_0]] (by rfl) rfl rfl za5 ?_
  with_reducible refine (laws_toProblem.calls k _ _ l0_0 t4012 _ ?side1 ?side2 A12.out).mono ?_
  (case side1=>repeat (first|exact (Kd.C_below HR0_0.out HB.out)|(with_reducible refine Kd.C_alloc ?_ _)|(with_reducible refine Kd.C_drewN ?_ _)|(with_reducible refine Kd.C_drew ?_)))
  (case side2=>exact HC0_0.out)
  rintro e w30 ⟨v4013,rfl,ho0,hb⟩
  refine ⟨_,rfl,?_⟩
  have n0_:=zk (Kd.R_elder' (za1 HO4005.out) (Kd.R_base ho0) hb)
  have n1_:=zk (Kd.R_elder' (za1 HO4009.out) (Kd.R_base ho0) hb)
  have n2_:=zk (Kd.R_lower (Kd.R_new' (Kd.R_new' ho0 (Kd.R_lt (za1 HO4005.out))) (Kd.R_lt (za1 HO4009.out))) (below_size za2))
  have n3_:=zk (zb BK4001.out hb)
  have n4_:=zk (zb BK4010.out hb)
  have n5_:=zk (below_step za2 hb)
  clear HO4005
  clear HO4009
  clear BK4001
  clear BK4010
  clear HB
  have HO4005:=n0_
  have HO4009:=n1_
  have HO4014:=n2_
  have BK4001:=n3_
  have BK4010:=n4_
  have HB:=n5_
  clear n0_ n1_ n2_ n3_ n4_ n5_
  (try clear hb)
  (try clear hb2)
  (try clear hk)
  (try clear hi)
  (try clear ho0)
  obtain ⟨Ao31,co31,eo31⟩:=Kd.R_slice HO4014.out
  (first|subst eo31|(injection eo31 with f1_ f2_ f3_;have f4_:=f1_.symm;have f5_:=f3_.symm;clear f1_ f2_ f3_;subst f4_;subst f5_))
  refine hK.out _ _ ⟨(blk_cell BK4010.out 0).trans rfl,(blk_cell BK4001.out 0).trans rfl⟩ (fun hHeld=>?_)
  clear hK K
  refine norm_ (a':=?_) ?_ ?_
  rotate_left
  ·show Act.put _ (some 24) _=_
   simp only [Act.put,zt,zu,zv,i64_w,i32_w]
   rfl
  refine one_ (i:=3) (N:=some 25) #[true,true,true,true,false] rfl rfl (by kernel_rfl) (by decide) (fun K hK=>?_)
  refine goes_ Tryd.func14 (by kernel_rfl) rfl #[.agg #[.slice Ao25 t4007.length co25],.agg #[.slice Ao31 t4012.length co31]] (by rfl) rfl rfl za5 ?_
  with_reducible refine (laws_eqProblem.calls k _ _ t4007 _ _ t4012 _ _ ?side1 ?side2 ?side3 ?side4 A13.out).mono ?_
  (case side1=>repeat (first|exact (Kd.R_reads' HO4009.out).2.2|(with_reducible refine Kd.C_alloc ?_ _)|(with_reducible refine Kd.C_drewN ?_ _)|(with_reducible refine Kd.C_drew ?_)))
  (case side2=>exact (Kd.R_reads' HO4009.out).2.1)
  (case side3=>repeat (first|exact (Kd.R_reads' HO4014.out).2.2|(with_reducible refine Kd.C_alloc ?_ _)|(with_reducible refine Kd.C_drewN ?_ _)|(with_reducible refine Kd.C_drew ?_)))
  (case side4=>exact (Kd.R_reads' HO4014.out).2.1)
  rintro e w32 ⟨rfl,hb⟩
  refine ⟨_,rfl,?_⟩
  have n0_:=zk (Kd.R_below (za1 HO4005.out) hb)
  have n1_:=zk (Kd.R_below (za1 HO4009.out) hb)
  have n2_:=zk (Kd.R_below (za1 HO4014.out) hb)
  have n3_:=zk (zb BK4001.out hb)
  have n4_:=zk (zb BK4010.out hb)
  have n5_:=zk (below_step za2 hb)
  clear HO4005
  clear HO4009
  clear HO4014
  clear BK4001
  clear BK4010
  clear HB
  have HO4005:=n0_
  have HO4009:=n1_
  have HO4014:=n2_
  have BK4001:=n3_
  have BK4010:=n4_
  have HB:=n5_
  clear n0_ n1_ n2_ n3_ n4_ n5_
  (try clear hb)
  (try clear hb2)
  (try clear hk)
  (try clear hi)
  refine hK.out _ _ ⟨(blk_cell BK4010.out 0).trans rfl,(blk_cell BK4001.out 0).trans rfl⟩ (fun hHeld=>?_)
  clear hK K
  refine norm_ (a':=?_) ?_ ?_
  rotate_left
  ·show Act.put _ (some 25) _=_
   simp only [Act.put,zt,zu,zv,i64_w,i32_w]
   rfl
  refine pure_ (i:=4) (N:=some 26) (v:=?_) (a':=?_) #[true,true,true,true,true] rfl rfl (by kernel_rfl) (fun _ _ _ h=>h) (Or.inl ⟨by rfl,?_⟩) ?_ ?_
  rotate_left
  ·intro w'
   go_simp
   exact zr0
  rotate_left
  ·simp only [Act.put,zt,zu,zv,i64_w,i32_w]
   rfl
  refine done_ (by kernel_rfl) ?_
  try go_wp2
  go_ret
  exact ⟨za6,za2⟩
 ·replace c14:=Bool.eq_false_iff.mpr c14
  subst c14
  have H1:(some false)=some r:=by rw [if_neg (show ¬ (false=true) by decide)] at H;exact H
  clear H
  have H:=H1
  clear H1
  exact absurd ((zi H).trans HRT_.out) (by decide)
 ·rw [if_neg c11] at H
  have c11b0:(t4011.toList == t4006.toList)=false:=beq_eq_false_iff_ne.mpr c11
  have c11b1:(t4011.toList != t4006.toList)=true:=bne_iff_ne.mpr c11
  exact absurd ((zi H).trans HRT_.out) (by decide)
end Go.Proofs.YtdchpohiiigobaaDoor.A
namespace Go.Proofs.YtdchpohiiigobaaDoor.Br
open Go YtdchpohiiigobaaDoorW.PrintWords
def BrN (P:Program) (n:Nat) (t:TypeId) {α:Type} (d:Kd α) (wf:α→Prop):Prop :=
 ∀ (H:Type) (enc:TypeId × Value→H) (w:World) (base:Nat) (spare:Nat→Bool) (held:Bool) (m:Nat) (cs:List Value) (x:DataW H × List MemPlace),
  m≤n→DataW.trod enc P w base spare held m t cs=some x→∃ a,d.K w a cs∧wf a
def Br (P:Program) (t:TypeId) {α:Type} (d:Kd α) (wf:α→Prop):Prop:=∀ n,BrN P n t d wf
def BF (P:Program) (n:Nat) (fs:List Field) (o:Nat) {α:Type} (d:Kd α) (wf:α→Prop):Prop :=
 ∀ (H:Type) (enc:TypeId × Value→H) (w:World) (base:Nat) (spare:Nat→Bool) (held:Bool) (m:Nat) (cs:List Value) (xs:List (DataW H × List MemPlace)),
  m≤n→cs.length=d.sz→xs.length=fs.length →
  (∀ (i:Nat) (f:Field),fs[i]? = some f→DataW.trod enc P w base spare held m f.type ((cs.drop (f.offset - o)).take (P.cellsOf f.type))=xs[i]?)→∃ a,d.K w a cs∧wf a
theorem BrN.mono {P:Program} {n m:Nat} {t:TypeId} {α:Type} {d:Kd α} {wf:α→Prop} (h:BrN P n t d wf) (hm:m≤n):BrN P m t d wf :=
 fun H enc w base spare held k cs x hk=>h H enc w base spare held k cs x (Nat.le_trans hk hm)
theorem BrN.imp {P:Program} {n:Nat} {t:TypeId} {α:Type} {d:Kd α} {wf wf':α→Prop} (h:BrN P n t d wf) (hi:∀ a,wf a→wf' a):BrN P n t d wf' :=
 fun H enc w base spare held k cs x hk hx=>by
  obtain ⟨a,h1,h2⟩:=h H enc w base spare held k cs x hk hx
  exact ⟨a,h1,hi a h2⟩
theorem BrN.zero (P:Program) (t:TypeId) {α:Type} (d:Kd α) (wf:α→Prop):BrN P 0 t d wf:=by
 intro H enc w base spare held m cs x hm hx
 obtain rfl:m=0:=by omega
 simp [DataW.trod] at hx
theorem br_int {P:Program} {t:TypeId} {k:IntKind} (ht:P.underlying t=some (.int k)) (n:Nat):BrN P n t (Kd.int k) (fun a=>(Lit.int k a).wf=true):=by
 intro H enc w base spare held m cs x _ hx
 obtain ⟨a,rfl,_,hw⟩:=DataW.trod_int ht hx
 exact ⟨a,rfl,hw⟩
theorem br_string {P:Program} {t:TypeId} (ht:P.underlying t=some .string) (n:Nat):BrN P n t Kd.string (fun s=>s.size≤9223372036854775807):=by
 intro H enc w base spare held m cs x _ hx
 obtain ⟨a,rfl,_,hw⟩:=DataW.trod_string ht hx
 exact ⟨a,rfl,by simpa [maxLen] using hw⟩
theorem list_of_all {α:Type} {Q:Nat→α→Prop} (n:Nat) (h:∀ i,i < n→∃ a,Q i a):∃ l:List α,l.length=n∧∀ i a,l[i]? = some a→Q i a:=by
 induction n with
 | zero=>exact ⟨[],rfl,fun i a h=>by simp at h⟩
 | succ n ih =>
  obtain ⟨l,hl,hq⟩:=ih (fun i hi=>h i (by omega))
  obtain ⟨a,ha⟩:=h n (by omega)
  refine ⟨l ++ [a],by simp [hl],fun i b hb=>?_⟩
  rcases Nat.lt_or_ge i l.length with hi|hi
  ·rw [List.getElem?_append_left hi] at hb
   exact hq i b hb
  ·rw [List.getElem?_append_right hi] at hb
   obtain ⟨h0,rfl⟩:i - l.length=0∧a=b:=by
    rcases Nat.eq_zero_or_pos (i - l.length) with h0|h0
    ·rw [h0] at hb;exact ⟨h0,by simpa using hb⟩
    ·rw [List.getElem?_eq_none (by simp;omega)] at hb;simp at hb
   obtain rfl:i=n:=by omega
   exact ha
theorem cells_at {w:World} {base:Nat} {a:Addr} {n:Nat} {cs:List Value} (h:w.cells? base a n=some cs):cs.length=n∧∀ i u,cs[i]? = some u→w.cell? (a.add i)=some u:=by
 unfold World.cells? at h
 split at h
 ·have hl:=mapM_some_length h
  refine ⟨by simpa using hl,fun i u hu=>?_⟩
  have hi:i < n:=by
   have:=(List.getElem?_eq_some_iff.1 hu).1
   simp at hl
   omega
  have:=mapM_some_get h i i (by simp [hi])
  rw [this,hu]
 ·simp at h
theorem br_slice {P:Program} {t e:TypeId} {α:Type} {d:Kd α} {wf:α→Prop} {n:Nat} (ht:P.underlying t=some (.slice e)) (hs:P.cellsOf e=d.sz) (h:BrN P n e d wf) :
  BrN P (n+1) t (Kd.slice e d) (fun l=>l.length≤9223372036854775807∧∀ a ∈ l,wf a):=by
 intro H enc w base spare held m cs x hm hx
 rcases DataW.trod_slice ht hx with ⟨rfl,_⟩|⟨a,len,cap,elems,rest,k,rfl,rfl,_,_,hl,hc,he,hg,_,_⟩
 ·exact ⟨[],⟨none,0,rfl,Nat.le_refl _,Kd.C_nil d w⟩,by simp,by simp⟩
 ·have hq:∀ i,i < len→∃ b,(∃ c,c.length=d.sz∧d.K w b c∧∀ j u,c[j]? = some u→w.cell? (a.add (i * d.sz+j))=some u)∧wf b:=by
   intro i hi
   have g:=hg i hi
   rw [List.getElem?_eq_getElem (by omega)] at g
   obtain ⟨c,hc1,hc2⟩:=Option.bind_eq_some_iff.1 g
   obtain ⟨b,hb,hw⟩:=h H enc w base spare held k c _ (by omega) hc2
   obtain ⟨h1,h2⟩:=cells_at hc1
   refine ⟨b,⟨c,by rw [h1,hs],hb,fun j u hu=>?_⟩,hw⟩
   have:=h2 j u hu
   rw [Addr.add_add,hs] at this
   exact this
  obtain ⟨l,hl1,hl2⟩:=list_of_all len hq
  have hlen:len≤9223372036854775807:=by simp only [maxLen] at hc;omega
  refine ⟨l,⟨some a,cap,by rw [hl1],by omega,rfl,by omega,fun _=>⟨a,rfl,fun j p hp=>(hl2 j p hp).1⟩⟩,by omega,fun b hb=>?_⟩
  obtain ⟨i,hi,rfl⟩:=List.mem_iff_getElem.1 hb
  exact (hl2 i _ (List.getElem?_eq_getElem hi)).2
theorem br_slice' {P:Program} {t e:TypeId} {α:Type} {d:Kd α} {wf:α→Prop} (ht:P.underlying t=some (.slice e)) (hs:P.cellsOf e=d.sz) (h:∀ n,BrN P n e d wf) (n:Nat) :
 BrN P n t (Kd.slice e d) (fun l=>l.length≤9223372036854775807∧∀ a ∈ l,wf a):=(br_slice ht hs (h n)).mono (Nat.le_succ n)
theorem bf_one {P:Program} {n o:Nat} {f:Field} {α:Type} {d:Kd α} {wf:α→Prop} (ho:f.offset=o) (hs:P.cellsOf f.type=d.sz) (h:BrN P n f.type d wf):BF P n [f] o d wf:=by
 intro H enc w base spare held m cs xs hm hl hx hf
 have g:=hf 0 f rfl
 rw [ho,Nat.sub_self,List.drop_zero,hs,← hl,List.take_length,List.getElem?_eq_getElem (by simp at hx;omega)] at g
 exact h H enc w base spare held m cs _ hm g
theorem bf_cons {P:Program} {n o:Nat} {f:Field} {fs:List Field} {α β:Type} {d:Kd α} {d':Kd β} {wf:α→Prop} {wf':β→Prop} (ho:f.offset=o) (hs:P.cellsOf f.type=d.sz) (h:BrN P n f.type d wf)
  (hfs:BF P n fs (o+d.sz) d' wf') (hle:∀ g ∈ fs,o+d.sz≤g.offset):BF P n (f :: fs) o (Kd.pair d d') (fun x=>wf x.1∧wf' x.2):=by
 intro H enc w base spare held m cs xs hm hl hx hf
 have hl':cs.length=d.sz+d'.sz:=hl
 have g:=hf 0 f rfl
 rw [ho,Nat.sub_self,List.drop_zero,hs,List.getElem?_eq_getElem (by simp at hx;omega)] at g
 obtain ⟨a,ha,hwa⟩:=h H enc w base spare held m _ _ hm g
 cases xs with
 | nil=>simp at hx
 | cons y ys =>
  obtain ⟨b,hb,hwb⟩:=hfs H enc w base spare held m (cs.drop d.sz) ys hm (by rw [List.length_drop];omega) (by simpa using hx) (fun i q hq=>by
   have g2:=hf (i+1) q (by simpa using hq)
   have hm:q ∈ fs:=List.mem_of_getElem? hq
   have:=hle q hm
   rw [List.drop_drop,show d.sz+(q.offset - (o+d.sz))=q.offset - o by omega]
   simpa using g2)
  exact ⟨(a,b),⟨cs.take d.sz,cs.drop d.sz,(List.take_append_drop _ _).symm,ha,hb⟩,hwa,hwb⟩
theorem br_struct {P:Program} {t:TypeId} {fs:Array Field} {α:Type} {d:Kd α} {wf:α→Prop} {n:Nat} (ht:P.underlying t=some (.struct fs)) (hs:P.cellsOf t=d.sz) (h:BF P n fs.toList 0 d wf):BrN P (n+1) t d wf:=by
 intro H enc w base spare held m cs x hm hx
 obtain ⟨xs,k,rfl,_,hl,hxs,hf⟩:=DataW.trod_struct ht hx
 exact h H enc w base spare held k cs xs (by omega) (by rw [hl,hs]) (by simpa using hxs) (fun i f hi=>by simpa using hf i f (by simpa using hi))
theorem br_struct' {P:Program} {t:TypeId} {fs:Array Field} {α:Type} {d:Kd α} {wf:α→Prop} (ht:P.underlying t=some (.struct fs)) (hs:P.cellsOf t=d.sz) (h:∀ n,BF P n fs.toList 0 d wf) (n:Nat):BrN P n t d wf :=
 (br_struct ht hs (h n)).mono (Nat.le_succ n)
theorem br_iso {P:Program} {n:Nat} {t:TypeId} {α β:Type} {d:Kd α} {wf:α→Prop} {f:β→α} (g:α→β) (hg:∀ y,f (g y)=y) (h:BrN P n t d wf):BrN P n t (Kd.iso d f) (fun x=>wf (f x)):=by
 intro H enc w base spare held m cs x hm hx
 obtain ⟨a,h1,h2⟩:=h H enc w base spare held m cs x hm hx
 exact ⟨g a,by show d.K w (f (g a)) cs;rw [hg];exact h1,by show wf (f (g a));rw [hg];exact h2⟩
theorem br_fix {P:Program} {t:TypeId} {α:Type} {F:Kd α→Kd α} {sz:Nat} {E:List Nat} {hs:∀ n,(Kd.upto F sz E n).sz=sz} {hE:∀ n q,q ∈ (Kd.upto F sz E n).E→q ∈ E} {wf:Nat→α→Prop}
  (h:∀ n,BrN P n t (Kd.upto F sz E n) (wf n)) (n:Nat):BrN P n t (Kd.fix F sz E hs hE) (fun a=>∃ k,wf k a):=by
 intro H enc w base spare held m cs x hm hx
 obtain ⟨a,h1,h2⟩:=h n H enc w base spare held m cs x hm hx
 exact ⟨a,⟨n,h1⟩,n,h2⟩
theorem arr_of {xs:Array Value} {l:List Value} (h:xs.toList=l):xs=l.toArray:=by rw [← h]
end Go.Proofs.YtdchpohiiigobaaDoor.Br
namespace Go.Proofs.YtdchpohiiigobaaDoor.BtFnExactFormatProblem
open Go Go.RowKit YtdchpohiiigobaaDoor.A YtdchpohiiigobaaDoor.Br YtdchpohiiigobaaDoorW.PrintWords
def wf24N:Nat→S24→Prop
 | 0,_=>False
 | n+1,x=>((Lit.int .i64 x.f0).wf=true)∧((x.f1:ByteArray).size≤9223372036854775807)∧((x.f2:(List S24)).length≤9223372036854775807∧∀ a ∈ x.f2,wf24N n a)
def wf24 (x:S24):Prop:=∃ n,wf24N n x
theorem br24N:∀ n,BrN Tryd.prog n 24 (Kd.upto F24 3 [24] n) (wf24N n)
 | 0=>BrN.zero _ _ _ _
 | n+1=>by
  have ih:=br24N n
  exact (br_iso (f:=(fun x:S24=>(x.f0,x.f1,x.f2))) (fun y=>⟨y.1,y.2.1,y.2.2⟩) (fun _=>rfl) (br_struct Tryd.underlying24 (show Tryd.prog.cellsOf 24=3 by kernel_rfl) (bf_cons rfl (show Tryd.prog.cellsOf 3=1 by kernel_rfl) (br_int Tryd.underlying3 n) (bf_cons rfl (show Tryd.prog.cellsOf 9=1 by kernel_rfl) (br_string Tryd.underlying9 n) (bf_one rfl (show Tryd.prog.cellsOf 22=1 by kernel_rfl) ((br_slice Tryd.underlying22 (show Tryd.prog.cellsOf 24=(Kd.upto F24 3 [24] n).sz by rw [sz24];kernel_rfl) ih).mono (Nat.le_succ n))) (of_decide_eq_true (by kernel_rfl))) (of_decide_eq_true (by kernel_rfl))))).imp (fun _ h=>h)
theorem br24 (n:Nat):BrN Tryd.prog n 24 k24 wf24:=br_fix br24N n
def wf27 (x:S27):Prop:=((Lit.int .i64 x.f0).wf=true)∧((x.f1:ByteArray).size≤9223372036854775807)∧((x.f2:ByteArray).size≤9223372036854775807)∧(wf24 x.f3)∧((x.f4:(List Int)).length≤9223372036854775807∧∀ a ∈ x.f4,(Lit.int .i64 a).wf=true)∧((Lit.int .i64 x.f5).wf=true)
theorem br27 (n:Nat):BrN Tryd.prog n 27 k27 wf27 :=
 (br_iso (f:=(fun x:S27=>(x.f0,x.f1,x.f2,x.f3,x.f4,x.f5))) (fun y=>⟨y.1,y.2.1,y.2.2.1,y.2.2.2.1,y.2.2.2.2.1,y.2.2.2.2.2⟩) (fun _=>rfl) (br_struct' Tryd.underlying27 (show Tryd.prog.cellsOf 27=8 by kernel_rfl) (fun n=>(bf_cons rfl (show Tryd.prog.cellsOf 3=1 by kernel_rfl) (br_int Tryd.underlying3 n) (bf_cons rfl (show Tryd.prog.cellsOf 9=1 by kernel_rfl) (br_string Tryd.underlying9 n) (bf_cons rfl (show Tryd.prog.cellsOf 9=1 by kernel_rfl) (br_string Tryd.underlying9 n) (bf_cons rfl (show Tryd.prog.cellsOf 24=3 by kernel_rfl) (br24 n) (bf_cons rfl (show Tryd.prog.cellsOf 25=1 by kernel_rfl) (br_slice' Tryd.underlying25 (show Tryd.prog.cellsOf 3=1 by kernel_rfl) (fun n=>(br_int Tryd.underlying3 n)) n) (bf_one rfl (show Tryd.prog.cellsOf 3=1 by kernel_rfl) (br_int Tryd.underlying3 n)) (of_decide_eq_true (by kernel_rfl))) (of_decide_eq_true (by kernel_rfl))) (of_decide_eq_true (by kernel_rfl))) (of_decide_eq_true (by kernel_rfl))) (of_decide_eq_true (by kernel_rfl)))) n)).imp (fun _ h=>h)
end Go.Proofs.YtdchpohiiigobaaDoor.BtFnExactFormatProblem
namespace Go.Proofs.YtdchpohiiigobaaDoor.Pure
open Go Go.RowKit YtdchpohiiigobaaDoor.Br YtdchpohiiigobaaDoorW.PrintWords YtdchpohiiigobaaDoorW.PrintLast YtdchpohiiigobaaDoor.A YtdchpohiiigobaaDoor.Ext YtdchpohiiigobaaDoor.BtFnExactFormatProblem
def FnExactFormatProblem.Pure:Prop:=∀ (l0_0:(List S27)),((l0_0:(List S27)).length≤9223372036854775807∧∀ a ∈ l0_0,wf27 a)→∃ k,laws_FnExactFormatProblem.f k l0_0=some true
end Go.Proofs.YtdchpohiiigobaaDoor.Pure
namespace Go.Proofs.YtdchpohiiigobaaDoor.Pl
open Go.RowKit YtdchpohiiigobaaDoorW.PrintWords
def Evt {α:Type} (g:Nat→Option α) (r:α):Prop:=∃ K,∀ k,K≤k→g k=some r
section
variable {α β : Type}
theorem Evt.const {g:Option α} {r:α} (h:g=some r):Evt (fun _=>g) r:=⟨0,fun _ _=>h⟩
theorem Evt.ret (r:α):Evt (fun _=>some r) r:=Evt.const rfl
theorem Evt.bind {g:Nat→Option α} {f:Nat→α→Option β} {a:α} {r:β} (hg:Evt g a) (hf:Evt (fun k=>f k a) r):Evt (fun k=>(g k).bind (f k)) r:=by
 obtain ⟨K,hK⟩:=hg
 obtain ⟨L,hL⟩:=hf
 exact ⟨max K L,fun k hk=>by show (g k).bind (f k)=some r;rw [hK k (by omega)];exact hL k (by omega)⟩
theorem Evt.bindc {g:Option α} {f:Nat→α→Option β} {a:α} {r:β} (hg:g=some a) (hf:Evt (fun k=>f k a) r):Evt (fun k=>g.bind (f k)) r:=Evt.bind (Evt.const hg) hf
theorem Evt.step {g:Nat→Option α} {r:α} (h:Evt (fun k=>g (k+1)) r):Evt g r:=by
 obtain ⟨K,hK⟩:=h
 exact ⟨K+1,fun k hk=>by
  obtain ⟨m,rfl⟩:∃ m,k=m+1:=⟨k - 1,by omega⟩
  exact hK m (by omega)⟩
theorem Evt.pos {c:Prop} [Decidable c] {t e:Nat→Option α} {r:α} (h:c) (ht:Evt t r):Evt (fun k=>if c then t k else e k) r:=by
 obtain ⟨K,hK⟩:=ht
 exact ⟨K,fun k hk=>(if_pos h).trans (hK k hk)⟩
theorem Evt.neg {c:Prop} [Decidable c] {t e:Nat→Option α} {r:α} (h:¬ c) (ht:Evt e r):Evt (fun k=>if c then t k else e k) r:=by
 obtain ⟨K,hK⟩:=ht
 exact ⟨K,fun k hk=>(if_neg h).trans (hK k hk)⟩
theorem Evt.ite {c:Prop} [Decidable c] {t e:Nat→Option α} {x y:α} (ht:c→Evt t x) (he:¬ c→Evt e y):Evt (fun k=>if c then t k else e k) (if c then x else y):=by
 by_cases h:c
 ·rw [if_pos h];exact Evt.pos h (ht h)
 ·rw [if_neg h];exact Evt.neg h (he h)
theorem Evt.get {g:Nat→Option α} {r:α} (h:Evt g r):∃ k,g k=some r:=by
 obtain ⟨K,hK⟩:=h
 exact ⟨K,hK K (Nat.le_refl _)⟩
theorem Evt.of_eq {g g':Nat→Option α} {r:α} (h:∀ k,g k=g' k) (h':Evt g' r):Evt g r:=by
 obtain ⟨K,hK⟩:=h'
 exact ⟨K,fun k hk=>by rw [h];exact hK k hk⟩
theorem Evt.cast {g:Nat→Option α} {r r':α} (h:Evt g r) (e:r=r'):Evt g r':=e ▸ h
theorem Evt.up (l:Nat→Int→Option α) (n:Nat) (R:Nat→α) (hend:Evt (fun k=>l k (n:Int)) (R n))
  (hstep:∀ i:Nat,i < n→Evt (fun k=>l k ((i+1:Nat):Int)) (R (i+1))→Evt (fun k=>l k (i:Int)) (R i)):Evt (fun k=>l k 0) (R 0):=by
 have h:∀ d i:Nat,i+d=n→Evt (fun k=>l k (i:Int)) (R i):=by
  intro d
  induction d with
  | zero =>
   intro i hi
   obtain rfl:i=n:=by omega
   exact hend
  | succ d ih =>
   intro i hi
   exact hstep i (by omega) (ih (i+1) (by omega))
 exact h n 0 (by omega)
end
theorem w64 {x:Int} (h : -9223372036854775808≤x) (h':x≤9223372036854775807):wrap64 x=x:=by unfold wrap64;omega
theorem w64s {i:Nat} (h:i < 9223372036854775807):wrap64 ((i:Int)+1)=((i+1:Nat):Int):=by
 rw [w64 (by omega) (by omega)];omega
theorem bt0 (s:ByteArray) (i:Int):0≤bt s i:=(bt_range s i).1
theorem bt255 (s:ByteArray) (i:Int):bt s i≤255:=(bt_range s i).2
theorem bt_get (s:ByteArray) (i:Nat) (h:i < (bytesOf s).length):bt s (i:Int)=(bytesOf s)[i]:=by
 rw [← rd_bytesOf]
 simp [rd,h]
theorem bytesOf_inj {s t:ByteArray} (h:bytesOf s=bytesOf t):s=t:=by
 have h1:s.data.toList=t.data.toList:=by
  refine List.map_inj_right (f:=fun b:UInt8=>(b.toNat:Int)) (fun x y hxy=>?_) |>.1 h
  exact UInt8.toNat_inj.1 (Int.ofNat_inj.1 hxy)
 cases s;cases t
 simp only [ByteArray.mk.injEq]
 exact Array.toList_inj.1 h1
theorem toList_eq_iff (s t:ByteArray):s.toList=t.toList ↔ s=t:=by
 rw [Lib.toList_data,Lib.toList_data]
 constructor
 ·intro h
  cases s;cases t
  simp only [ByteArray.mk.injEq]
  exact Array.toList_inj.1 h
 ·rintro rfl;rfl
theorem toList_nil_iff (s:ByteArray):s.toList=([]:List UInt8) ↔ s.size=0:=by
 rw [Lib.toList_data,← data_length,List.length_eq_zero_iff]
theorem mem_bytes (s:ByteArray) {c:Int} (h:c ∈ bytesOf s):0≤c∧c≤255:=by
 unfold bytesOf at h
 obtain ⟨b,_,rfl⟩:=List.mem_map.1 h
 have:=b.toNat_lt
 omega
theorem bytesOf_append (s t:ByteArray):bytesOf (s ++ t)=bytesOf s ++ bytesOf t:=by
 simp [bytesOf,ByteArray.data_append]
theorem bytesOf_extract (s:ByteArray) (a b:Nat):bytesOf (s.extract a b)=((bytesOf s).drop a).take (b - a):=by
 have h:=Lib.extract_toList s a b
 rw [Lib.toList_data] at h
 unfold bytesOf
 rw [h,List.map_take,List.map_drop]
theorem bytesOf_tail (s:ByteArray) (a:Nat):bytesOf (s.extract a s.size)=(bytesOf s).drop a:=by
 rw [bytesOf_extract,List.take_of_length_le]
 rw [List.length_drop,bytesOf_length]
 exact Nat.le_refl _
def ltI (c:Int):Int:=if 97=c then 0 else if 98=c then 1 else if 99=c then 2 else -1
def varI (c:Int):Int:=if 88=c then 0 else if 89=c then 1 else if 90=c then 2 else -1
def isVr (c:Int):Bool:=decide (88≤c∧c≤90)
theorem ix_abc:∀ n:Nat,n < 256→Lib.indexByte [97,98,99] n.toUInt8=ltI (n:Int):=by decide +kernel
theorem ix_XYZ:∀ n:Nat,n < 256→Lib.indexByte [88,89,90] n.toUInt8=varI (n:Int):=by decide +kernel
theorem varI_isVar (c:Int):decide (varI c ≥ 0)=isVr c:=by
 unfold varI isVr
 split
 ·subst_vars;rfl
 ·split
  ·subst_vars;rfl
  ·split
   ·subst_vars;rfl
   ·simp;omega
theorem ltI_nonneg (c:Int):0≤ltI c ↔ (97≤c∧c≤99):=by
 unfold ltI
 split
 ·subst_vars;simp
 ·split
  ·subst_vars;simp
  ·split
   ·subst_vars;simp
   ·simp;omega
theorem ltI_le (c:Int):ltI c≤2:=by
 unfold ltI
 repeat' split
 all_goals omega
theorem ltI_ge (c:Int) : -1≤ltI c:=by
 unfold ltI
 repeat' split
 all_goals omega
theorem bt_abc0:bt (⟨#[97,98,99]⟩:ByteArray) 0=97:=by decide
theorem bt_abc1:bt (⟨#[97,98,99]⟩:ByteArray) 1=98:=by decide
theorem bt_abc2:bt (⟨#[97,98,99]⟩:ByteArray) 2=99:=by decide
theorem bt_XYZ0:bt (⟨#[88,89,90]⟩:ByteArray) 0=88:=by decide
theorem bt_XYZ1:bt (⟨#[88,89,90]⟩:ByteArray) 1=89:=by decide
theorem bt_XYZ2:bt (⟨#[88,89,90]⟩:ByteArray) 2=90:=by decide
theorem w64_a:wrap64 1=1:=by unfold wrap64;omega
theorem w64_b:wrap64 2=2:=by unfold wrap64;omega
theorem w64_c:wrap64 3=3:=by unfold wrap64;omega
theorem w64_1:wrap64 (0+1)=1:=by unfold wrap64;omega
theorem w64_2:wrap64 (1+1)=2:=by unfold wrap64;omega
theorem w64_3:wrap64 (2+1)=3:=by unfold wrap64;omega
theorem indexByte_nonneg (l:List UInt8) (c:UInt8):0≤Lib.indexByte l c ↔ c ∈ l:=by
 induction l with
 | nil=>simp [Lib.indexByte]
 | cons b l ih =>
  unfold Lib.indexByte
  by_cases h:b=c
  ·subst h;simp
  ·have hb:(b == c)=false:=by simpa using h
   rw [hb]
   have hge:=Lib.indexByte_ge l c
   by_cases h2:Lib.indexByte l c = -1
   ·simp only [h2]
    simp
    refine ⟨fun e=>h e.symm,fun hm=>?_⟩
    have:=ih.2 hm
    omega
   ·have h3:(Lib.indexByte l c == -1)=false:=by simpa using h2
    rw [h3]
    simp
    constructor
    ·intro _;exact .inr (ih.1 (by omega))
    ·rintro (e|hm)
     ·exact absurd e.symm h
     ·have:=ih.2 hm;omega
theorem mem_data (s:ByteArray) (n:Nat) (hn:n < 256):n.toUInt8 ∈ s.data.toList ↔ (n:Int) ∈ bytesOf s:=by
 unfold bytesOf
 rw [List.mem_map]
 constructor
 ·intro h
  exact ⟨_,h,by simp [Nat.mod_eq_of_lt hn]⟩
 ·rintro ⟨b,hb,e⟩
  have e2:b.toNat=n:=by omega
  subst e2
  simpa using hb
theorem w64_sub {a:Int} {n:Nat} (ha : -1≤a) (ha':a≤1048576) (hn:n≤9223372036854775807):wrap64 (a - (n:Int))=a - (n:Int):=w64 (by omega) (by omega)
end Go.Proofs.YtdchpohiiigobaaDoor.Pl
namespace Go.Proofs.YtdchpohiiigobaaDoor.F
open Go.RowKit YtdchpohiiigobaaDoorW.PrintWords YtdchpohiiigobaaDoor.Pl YtdchpohiiigobaaDoor.A YtdchpohiiigobaaDoor.Ext
def Evt2 {α:Type} (g:Nat→Nat→Option α) (r:α):Prop:=∃ K,∀ i j,K≤i→K≤j→g i j=some r
theorem Evt2.ret {α:Type} (r:α):Evt2 (fun _ _=>some r) r:=⟨0,fun _ _ _ _=>rfl⟩
theorem Evt2.bind {α β:Type} {g:Nat→Option α} {f:Nat→Nat→α→Option β} {a:α} {r:β} (hg:Evt g a) (hf:Evt2 (fun i j=>f i j a) r):Evt2 (fun i j=>(g i).bind (f i j)) r:=by
 obtain ⟨K,hK⟩:=hg
 obtain ⟨L,hL⟩:=hf
 exact ⟨max K L,fun i j hi hj=>by show (g i).bind (f i j)=some r;rw [hK i (by omega)];exact hL i j (by omega) (by omega)⟩
theorem Evt2.bind2 {α β:Type} {g:Nat→Nat→Option α} {f:Nat→Nat→α→Option β} {a:α} {r:β} (hg:Evt2 g a) (hf:Evt2 (fun i j=>f i j a) r):Evt2 (fun i j=>(g i j).bind (f i j)) r:=by
 obtain ⟨K,hK⟩:=hg
 obtain ⟨L,hL⟩:=hf
 exact ⟨max K L,fun i j hi hj=>by show (g i j).bind (f i j)=some r;rw [hK i j (by omega) (by omega)];exact hL i j (by omega) (by omega)⟩
theorem Evt2.pos {α:Type} {c:Prop} [Decidable c] {t e:Nat→Nat→Option α} {r:α} (h:c) (ht:Evt2 t r):Evt2 (fun i j=>if c then t i j else e i j) r:=by
 obtain ⟨K,hK⟩:=ht
 exact ⟨K,fun i j hi hj=>by show (if c then t i j else e i j)=some r;rw [if_pos h];exact hK i j hi hj⟩
theorem Evt2.neg {α:Type} {c:Prop} [Decidable c] {t e:Nat→Nat→Option α} {r:α} (h:¬ c) (he:Evt2 e r):Evt2 (fun i j=>if c then t i j else e i j) r:=by
 obtain ⟨K,hK⟩:=he
 exact ⟨K,fun i j hi hj=>by show (if c then t i j else e i j)=some r;rw [if_neg h];exact hK i j hi hj⟩
theorem Evt2.step {α:Type} {g:Nat→Nat→Option α} {r:α} (h:Evt2 (fun i j=>g i (j+1)) r):Evt2 g r:=by
 obtain ⟨K,hK⟩:=h
 refine ⟨K+1,fun i j hi hj=>?_⟩
 obtain ⟨j,rfl⟩:∃ m,j=m+1:=⟨j - 1,by omega⟩
 exact hK i j (by omega) (by omega)
theorem Evt2.diag {α:Type} {g:Nat→Nat→Option α} {r:α} (h:Evt2 g r):Evt (fun k=>g k k) r:=by
 obtain ⟨K,hK⟩:=h
 exact ⟨K,fun k hk=>hK k k hk hk⟩
theorem Evt2.cast {α:Type} {g:Nat→Nat→Option α} {r r':α} (h:Evt2 g r) (e:r=r'):Evt2 g r':=e ▸ h
def RxOk:Nat→S24→Prop
 | 0,_=>False
 | n+1,x=>x.f1.size≤9223372036854775807∧x.f2.length≤9223372036854775807∧∀ a ∈ x.f2,RxOk n a
def cntN:Nat→List S32→Nat
 | 0,_=>0
 | d+1,xs=>(xs.map fun y=>2+cntN d y.f2).sum
def htN:Nat→S32→Bool
 | 0,_=>false
 | d+1,x=>x.f2.all (htN d)
def Bd (l:List S32) (c:Nat):Prop:=(∀ d,cntN d l≤2 * c)∧∃ N,∀ d,N≤d→l.all (htN d)=true
inductive Sm : S32 → Prop
 | mk (a:Int) (b:ByteArray) (l:List S32) (h:l.length≤1048576) (hs:∀ x ∈ l,Sm x) (hb:∃ c,c≤1048576∧Bd l c):Sm ⟨a,b,l⟩
theorem Sm.len {x:S32} (h:Sm x):x.f2.length≤1048576:=by cases h;assumption
theorem rxL_at (l:List S24) (i:Nat) (h:i < l.length):rd_T24 l (i:Int)=l[i]:=by simp [rd_T24,h]
theorem rxI_at (l:List S32) (i:Nat) (h:i < l.length):rd_T32 l (i:Int)=l[i]:=by simp [rd_T32,h]
theorem rx_eta (y:S32):(⟨y.f0,y.f1,y.f2⟩:S32)=y:=by cases y;rfl
def Cp (x:S24) (y:S32):Prop:=Sm y∧Evt (fun k=>laws_toRegex.f k x.f0 x.f1 x.f2) (y.f0,y.f1,y.f2)
def CpN (c:Nat) (x:S24) (y:S32):Prop:=Cp x y∧Bd y.f2 c
def LN (l:List S24) (c:Nat):Prop:=∃ ys:List S32,ys.length=l.length∧(∀ (i:Nat) (h:i < l.length) (h':i < ys.length),Cp l[i] ys[i])∧Bd ys c
theorem LN_nil:LN [] 0:=⟨[],rfl,fun i h=>absurd h (by simp),fun d=>by cases d <;> simp [cntN],0,fun _ _=>rfl⟩
theorem LN_cons {x:S24} {l:List S24} {c c':Nat} (h:∃ y,CpN c x y) (h':LN l c'):LN (x :: l) (1+c+c'):=by
 obtain ⟨y,hy,b1,N1,n1⟩:=h
 obtain ⟨ys,e,hc,b2,N2,n2⟩:=h'
 refine ⟨y :: ys,by simp [e],fun i hi hi' => ?_,fun d=>?_,max (N1+1) N2,fun d hd=>?_⟩
 ·cases i with
  | zero=>exact hy
  | succ i=>exact hc i (by simpa using hi) (by simpa using hi')
 ·cases d with
  | zero=>simp [cntN]
  | succ d =>
   have h1:=b1 d
   have h2:=b2 (d+1)
   simp only [cntN,List.map_cons,List.sum_cons] at h2 ⊢
   omega
 ·obtain ⟨d',rfl⟩:∃ d',d=d'+1:=⟨d - 1,by omega⟩
  rw [List.all_cons,n2 (d'+1) (by omega),Bool.and_true]
  exact n1 d' (by omega)
theorem toRegex_ev (a:Int) (b:ByteArray) (l:List S24) (hl:l.length≤1048576) (c:Nat) (hcc:c≤1048576) (h:LN l c):∃ y,CpN c ⟨a,b,l⟩ y:=by
 obtain ⟨ys,e,hc,hbd⟩:=h
 refine ⟨⟨a,b,ys⟩,⟨Sm.mk a b ys (by omega) (fun y hy=>?_) ⟨c,hcc,hbd⟩,?_⟩,hbd⟩
 ·obtain ⟨i,hi,rfl⟩:=List.mem_iff_getElem.1 hy
  exact (hc i (by omega) hi).1
 ·refine Evt.step ?_
  simp only [laws_toRegex.f]
  refine Evt2.diag (g:=fun i j=>laws_toRegexG.f (fun _=>laws_toRegex.f i) j a b l) ?_
  simp only [laws_toRegexG.f,laws_toRegexSG.f]
  refine Evt2.bind2 (a:=ys) (Evt2.pos (by omega) (Evt2.pos (by omega) ?_)) (Evt2.ret _)
  rw [Int.toNat_natCast]
  have hh:∀ d i:Nat,i+d=l.length→Evt2 (fun p q=>laws_toRegexSG.l0 (fun _=>laws_toRegex.f p) q l (ys.take i ++ List.replicate (l.length - i) z32) (i:Int)) ys:=by
   intro d
   induction d with
   | zero =>
    intro i hi
    refine Evt2.step ?_
    simp only [laws_toRegexSG.l0]
    refine Evt2.neg (by omega) ((Evt2.ret _).cast ?_)
    rw [show l.length - i=0 by omega,List.take_of_length_le (by omega)]
    simp
   | succ d ih =>
    intro i hi
    have hi':i < l.length:=by omega
    refine Evt2.step ?_
    simp only [laws_toRegexSG.l0]
    rw [rxL_at l i hi']
    refine Evt2.pos (by omega) (Evt2.pos (by omega) (Evt2.bind (hc i hi' (by omega)).2 (Evt2.pos (by simp;omega) ?_)))
    rw [Int.toNat_natCast,w64s (by omega)]
    have hx:(ys.take i).length=i:=by rw [List.length_take];omega
    have e2:(ys.take i ++ List.replicate (l.length - i) z32).set i (ys[i]'(by omega))=ys.take (i+1) ++ List.replicate (l.length - (i+1)) z32:=by
     rw [List.set_append_right _ _ (by omega),hx,Nat.sub_self,show l.length - i=(l.length - (i+1))+1 by omega,List.replicate_succ,zu,List.take_succ_eq_append_getElem (by omega),List.append_assoc]
     rfl
    simp only [rx_eta,e2]
    exact ih (i+1) (by omega)
  simpa using hh l.length 0 (by omega)
theorem szRegex_evN:∀ n (x:S24),RxOk n x→∀ v:Int,0≤v→v≤1048576→∃ t,Evt (fun k=>laws_szRegex.f k x.f0 x.f1 x.f2 v) t∧(t = -1∨(0≤t∧t≤v∧∃ (c:Nat) (y:S32),(c:Int)≤v - t∧CpN c x y)):=by
 intro n
 induction n with
 | zero=>intro x h;exact h.elim
 | succ n ih =>
  rintro ⟨a,b,l⟩ ⟨h1,h2,h3⟩ v hv hv'
  simp only at h1 h2 h3
  have hs:∃ t,Evt2 (fun i j=>laws_szRegexG.f (fun _=>laws_szRegex.f i) j a b l v) t∧(t = -1∨(0≤t∧t≤v∧∃ (c:Nat) (y:S32),(c:Int)≤v - t∧CpN c ⟨a,b,l⟩ y)):=by
   simp only [laws_szRegexG.f,laws_szRegexSG.f]
   rw [w64_sub (by omega) (by omega) h1]
   by_cases c1:v - b.size < 0
   ·exact ⟨-1,Evt2.pos c1 (Evt2.ret _),.inl rfl⟩
   rw [w64_sub (by omega) (by omega) h2]
   by_cases c2:v - b.size - l.length < 0
   ·exact ⟨-1,Evt2.neg c1 (Evt2.bind2 (Evt2.pos c2 (Evt2.ret _)) (Evt2.pos (by decide) (Evt2.ret _))),.inl rfl⟩
   have hh:∀ d i:Nat,i+d=l.length→∀ u:Int,0≤u→u≤1048576→∃ t,Evt2 (fun p q=>laws_szRegexSG.l0 (fun _=>laws_szRegex.f p) q l u (i:Int)) t∧(t = -1∨(0≤t∧t≤u∧∃ c:Nat,LN (l.drop i) c∧(c:Int)≤u - t+(l.length - i))):=by
    intro d
    induction d with
    | zero =>
     intro i hi u hu hu'
     refine ⟨u,Evt2.step ?_,.inr ⟨hu,Int.le_refl _,?_⟩⟩
     ·simp only [laws_szRegexSG.l0]
      exact Evt2.neg (by omega) (Evt2.ret _)
     ·rw [List.drop_of_length_le (by omega)]
      exact ⟨0,LN_nil,by omega⟩
    | succ d ihd =>
     intro i hi u hu hu'
     have hi':i < l.length:=by omega
     obtain ⟨t,ht,hc⟩:=ih l[i] (h3 _ (List.getElem_mem hi')) u hu hu'
     by_cases c3:t < 0
     ·refine ⟨-1,Evt2.step ?_,.inl rfl⟩
      simp only [laws_szRegexSG.l0]
      rw [rxL_at l i hi']
      exact Evt2.pos (by omega) (Evt2.pos (by omega) (Evt2.bind ht (Evt2.pos c3 (Evt2.ret _))))
     ·have hc':=hc.resolve_left (by omega)
      obtain ⟨t',ht',hc2⟩:=ihd (i+1) (by omega) t (by omega) (by omega)
      refine ⟨t',Evt2.step ?_,?_⟩
      ·simp only [laws_szRegexSG.l0]
       rw [rxL_at l i hi',w64s (by omega)]
       exact Evt2.pos (by omega) (Evt2.pos (by omega) (Evt2.bind ht (Evt2.neg c3 ht')))
      ·rcases hc2 with h4|⟨h4,h5,c2,h6,h7⟩
       ·exact .inl h4
       ·obtain ⟨_,_,c1',y,hy1,hy2⟩:=hc'
        refine .inr ⟨h4,by omega,1+c1'+c2,?_,by omega⟩
        rw [List.drop_eq_getElem_cons hi']
        exact LN_cons ⟨y,hy2⟩ h6
   obtain ⟨t,ht,hc⟩:=hh l.length 0 (by omega) (v - b.size - l.length) (by omega) (by omega)
   by_cases c4:t < 0
   ·exact ⟨-1,Evt2.neg c1 (Evt2.bind2 (Evt2.neg c2 ht) (Evt2.pos c4 (Evt2.ret _))),.inl rfl⟩
   ·obtain ⟨k1,k2,c5,k3,k4⟩:=hc.resolve_left (by omega)
    obtain ⟨y,hy⟩:=toRegex_ev a b l (by omega) c5 (by omega) (by simpa using k3)
    exact ⟨t,Evt2.neg c1 (Evt2.bind2 (Evt2.neg c2 ht) (Evt2.neg c4 (Evt2.ret _))),.inr ⟨k1,by omega,c5,y,by omega,hy⟩⟩
  obtain ⟨t,ht,hc⟩:=hs
  refine ⟨t,Evt.step ?_,hc⟩
  simp only [laws_szRegex.f]
  exact Evt2.diag ht
theorem szRegex_ev (n:Nat) (x:S24) (h:RxOk n x) (v:Int) (hv:0≤v) (hv':v≤1048576):∃ t,Evt (fun k=>laws_szRegex.f k x.f0 x.f1 x.f2 v) t∧(t = -1∨(0≤t∧t≤v∧∃ y,Cp x y)):=by
 obtain ⟨t,h1,h2⟩:=szRegex_evN n x h v hv hv'
 exact ⟨t,h1,h2.imp id fun ⟨h3,h4,_,y,_,h5⟩=>⟨h3,h4,y,h5.1⟩⟩
theorem spec_LetterIndex_ev (c:Int):Evt (fun k=>spec_LetterIndex.f k c) (ltI c):=by
 refine ⟨4,fun k hk=>?_⟩
 obtain ⟨m,rfl⟩:∃ m,k=m+4:=⟨k - 4,by omega⟩
 unfold ltI
 by_cases h0:(97:Int)=c
 ·simp [spec_LetterIndex.f,spec_LetterIndex.l0,w64_a,w64_b,w64_c,bt_abc0,bt_abc1,bt_abc2,h0]
 ·by_cases h1:(98:Int)=c
  ·simp [spec_LetterIndex.f,spec_LetterIndex.l0,w64_a,w64_b,w64_c,bt_abc0,bt_abc1,bt_abc2,h0,h1]
  ·by_cases h2:(99:Int)=c
   ·simp [spec_LetterIndex.f,spec_LetterIndex.l0,w64_a,w64_b,w64_c,bt_abc0,bt_abc1,bt_abc2,h0,h1,h2]
   ·simp [spec_LetterIndex.f,spec_LetterIndex.l0,w64_a,w64_b,w64_c,bt_abc0,bt_abc1,bt_abc2,h0,h1,h2]
theorem impl_LetterIndex_eq {c:Int} (h0:0≤c) (h1:c≤255):impl_LetterIndex.f c=some (ltI c):=by
 obtain ⟨n,rfl⟩:=Int.eq_ofNat_of_zero_le h0
 simp only [impl_LetterIndex.f,strings_IndexByte.f,Option.bind_some]
 rw [Int.toNat_natCast]
 exact congrArg some (ix_abc n (by omega))
def allL (l:List Int):Bool:=l.all fun c=>decide (0≤ltI c)
theorem impl_isLetters_ev (s:ByteArray) (hs:s.size≤9223372036854775807):Evt (fun k=>impl_isLetters.f k s) (allL (bytesOf s)):=by
 have h:=Evt.up (fun k i=>impl_isLetters.l0 k s i) s.size (fun i=>allL ((bytesOf s).drop i)) ?_ ?_
 ·simpa [impl_isLetters.f] using h
 ·refine Evt.step ?_
  simp only [impl_isLetters.l0]
  rw [List.drop_of_length_le (by rw [bytesOf_length];omega)]
  exact Evt.neg (by omega) (Evt.ret _)
 ·intro i hi h
  refine Evt.step ?_
  simp only [impl_isLetters.l0]
  refine Evt.pos (by omega) (Evt.pos (by omega) (Evt.bindc (impl_LetterIndex_eq (bt0 _ _) (bt255 _ _)) ?_))
  have hl:i < (bytesOf s).length:=by rw [bytesOf_length];exact hi
  rw [List.drop_eq_getElem_cons hl,← bt_get s i hl]
  by_cases hc:ltI (bt s i) < 0
  ·exact Evt.pos hc (Evt.const (by simp [allL,show ¬ (0≤ltI (bt s i)) by omega]))
  ·rw [w64s (by omega)]
   exact Evt.neg hc (h.cast (by simp [allL,show 0≤ltI (bt s i) by omega]))
def isW (s:ByteArray):Bool:=allL (bytesOf s) && decide (s.size≤30)
theorem impl_IsWord_ev (s:ByteArray) (hs:s.size≤9223372036854775807):Evt (fun k=>impl_IsWord.f k s) (isW s):=by
 unfold isW
 simp only [impl_IsWord.f]
 by_cases h:s.size≤30
 ·exact Evt.pos (by omega) (Evt.bind (impl_isLetters_ev s hs) (Evt.const (by simp [h])))
 ·exact Evt.neg (by omega) (Evt.const (by simp [h]))
theorem spec_IsWord_ev (s:ByteArray) (hs:s.size≤9223372036854775807):Evt (fun k=>spec_IsWord.f k s) (isW s):=by
 have h:=Evt.up (fun k i=>spec_IsWord.l0 k s i) s.size (fun i=>allL ((bytesOf s).drop i) && decide (s.size≤30)) ?_ ?_
 ·simpa [spec_IsWord.f,isW] using h
 ·refine Evt.step ?_
  simp only [spec_IsWord.l0]
  rw [List.drop_of_length_le (by rw [bytesOf_length];omega)]
  refine Evt.neg (by omega) (Evt.const ?_)
  have e:((s.size:Int)≤30)=(s.size≤30):=by apply propext;omega
  simp [allL,e]
 ·intro i hi h
  refine Evt.step ?_
  simp only [spec_IsWord.l0]
  refine Evt.pos (by omega) (Evt.pos (by omega) (Evt.bind (spec_LetterIndex_ev _) ?_))
  have hl:i < (bytesOf s).length:=by rw [bytesOf_length];exact hi
  rw [List.drop_eq_getElem_cons hl,← bt_get s i hl]
  by_cases hc:ltI (bt s i) < 0
  ·exact Evt.pos hc (Evt.const (by simp [allL,show ¬ (0≤ltI (bt s i)) by omega]))
  ·rw [w64s (by omega)]
   exact Evt.neg hc (h.cast (by simp [allL,show 0≤ltI (bt s i) by omega]))
def arN (a:Int):Nat:=if a=5∨a=6∨a=7 then 2 else if a=8∨a=9 then 1 else 0
theorem arN_le (a:Int):arN a≤2:=by
 unfold arN
 split
 ·omega
 ·split <;> omega
def kOk (a:Int) (b:ByteArray) (n:Nat):Bool :=
 if a=3 then decide (b.size=1) && isW b && decide (n=0) else decide (1≤a∧a≤9) && decide (b.size=0) && decide (n=arN a)
theorem kOk_len {a:Int} {b:ByteArray} {n:Nat} (h:kOk a b n=true):n=arN a:=by
 unfold kOk at h
 split at h
 ·next e=>subst e;simp at h;simp [h.2,arN]
 ·simp at h;exact h.2
def nds:Nat→S32→Nat
 | 0,_=>17
 | n+1,x=>if kOk x.f0 x.f1 x.f2.length=true then min (1+(x.f2.map (nds n)).sum) 17 else 17
theorem nds_le (n:Nat) (x:S32):nds n x≤17:=by
 cases n with
 | zero=>exact Nat.le_refl _
 | succ n=>unfold nds;split <;> omega
def Ht:Nat→S32→Prop
 | 0,_=>False
 | n+1,x=>x.f2.length≤1048576∧∀ a ∈ x.f2,Ht n a
theorem Ht_mono:∀ n (x:S32),Ht n x→Ht (n+1) x:=by
 intro n
 induction n with
 | zero=>intro x h;exact h.elim
 | succ n ih=>intro x h;exact ⟨h.1,fun a ha=>ih a (h.2 a ha)⟩
theorem Ht_le {n m:Nat} (h:n≤m) (x:S32) (hx:Ht n x):Ht m x:=by
 induction h with
 | refl=>exact hx
 | step _ ih=>exact Ht_mono _ _ ih
theorem Sm.ht {x:S32} (h:Sm x):∃ n,Ht n x:=by
 induction h with
 | mk a b l hl hs hb ih =>
  have h3:∃ n,∀ a ∈ l,Ht n a:=by
   clear hl hs hb
   induction l with
   | nil=>exact ⟨0,fun a ha=>by cases ha⟩
   | cons x l ihl =>
    obtain ⟨n,hn⟩:=ihl (fun a ha=>ih a (List.mem_cons_of_mem _ ha))
    obtain ⟨m,hm⟩:=ih x (List.mem_cons_self ..)
    refine ⟨max n m,fun a ha=>?_⟩
    rcases List.mem_cons.1 ha with rfl|ha
    ·exact Ht_le (by omega) _ hm
    ·exact Ht_le (by omega) _ (hn a ha)
  obtain ⟨n,hn⟩:=h3
  exact ⟨n+1,hl,hn⟩
def siz:Nat→S32→Nat
 | 0,_=>1
 | n+1,x=>1+(x.f2.map (siz n)).sum
def dep:Nat→S32→Nat
 | 0,_=>1
 | n+1,x=>(x.f2.map (dep n)).foldr max 0+1
def alls:Nat→S32→Bool
 | 0,_=>true
 | n+1,x=>(x.f2.all (alls n)) && kOk x.f0 x.f1 x.f2.length
theorem siz_pos (n:Nat) (x:S32):1≤siz n x:=by cases n <;> simp [siz]
theorem dep_pos (n:Nat) (x:S32):1≤dep n x:=by cases n <;> simp [dep]
theorem dep_le_siz (n:Nat):∀ x:S32,dep n x≤siz n x:=by
 induction n with
 | zero=>intro x;simp [dep,siz]
 | succ n ih =>
  intro x
  simp only [dep,siz]
  generalize x.f2=l
  induction l with
  | nil=>simp
  | cons y l ihl=>simp only [List.map_cons,List.foldr_cons,List.sum_cons];have:=ih y;omega
theorem nds_eq (n:Nat):∀ (x:S32) (e:Nat),Ht n x→nds e x=if alls n x=true∧dep n x≤e∧siz n x≤16 then siz n x else 17:=by
 induction n with
 | zero=>intro x e h;exact h.elim
 | succ n ih =>
  intro x e h
  cases e with
  | zero =>
   have:=dep_pos (n+1) x
   rw [if_neg (by omega)]
   rfl
  | succ e =>
   unfold nds
   by_cases hk:kOk x.f0 x.f1 x.f2.length=true
   ·rw [if_pos hk]
    have hl:=kOk_len hk
    have h2:=arN_le x.f0
    obtain ⟨_,hm⟩:=h
    simp only [alls,dep,siz,hk,Bool.and_true]
    generalize x.f2=l at *
    match l with
    | []=>simp
    | [p] =>
     have ip:=ih p e (hm p (by simp))
     have hp:=siz_pos n p
     have hq:=dep_pos n p
     simp only [List.map_cons,List.map_nil,List.sum_cons,List.sum_nil,List.foldr_cons,List.foldr_nil,List.all_cons,List.all_nil,Bool.and_true,ip]
     by_cases c1:alls n p=true <;> by_cases c2:dep n p≤e <;> by_cases c3:siz n p≤16 <;> simp only [c1,c2,c3,true_and,false_and,and_true,and_false,if_true,if_false,Bool.false_eq_true] <;> first|omega|(split <;> omega)
    | [p,q] =>
     have ip:=ih p e (hm p (by simp))
     have iq:=ih q e (hm q (by simp))
     have hp:=siz_pos n p
     have hq:=siz_pos n q
     have hp':=dep_pos n p
     have hq':=dep_pos n q
     simp only [List.map_cons,List.map_nil,List.sum_cons,List.sum_nil,List.foldr_cons,List.foldr_nil,List.all_cons,List.all_nil,Bool.and_true,ip,iq,Bool.and_eq_true]
     by_cases c1:alls n p=true <;> by_cases c2:dep n p≤e <;> by_cases c3:siz n p≤16 <;> by_cases c1':alls n q=true <;> by_cases c2':dep n q≤e <;> by_cases c3':siz n q≤16 <;> simp only [c1,c2,c3,c1',c2',c3',true_and,false_and,and_true,and_false,if_true,if_false,Bool.false_eq_true] <;> first|omega|(split <;> omega)
    | p :: q :: r :: l=>simp at hl;omega
   ·rw [if_neg hk,if_neg]
    simp [alls,hk]
theorem impl_isVariable_eq {c:Int} (h0:0≤c) (h1:c≤255):impl_isVariable.f c=some (isVr c):=by
 obtain ⟨n,rfl⟩:=Int.eq_ofNat_of_zero_le h0
 simp only [impl_isVariable.f,strings_IndexByte.f,Option.bind_some]
 rw [Int.toNat_natCast,← varI_isVar,← ix_XYZ n (by omega)]
theorem spec_l8Var_eq (c:Int):spec_l8Var.f c=some (isVr c):=by
 unfold spec_l8Var.f isVr
 by_cases h:c ≥ 88
 ·rw [if_pos h];simp [show 88≤c from h]
 ·rw [if_neg h];simp [show ¬ 88≤c from h]
def isT (c:Int):Bool:=decide (0≤ltI c) || isVr c
def isTm (s:ByteArray):Bool:=(bytesOf s).all isT && decide (s.size≤12)
theorem spec_IsTerm_ev (s:ByteArray) (hs:s.size≤9223372036854775807):Evt (fun k=>spec_IsTerm.f k s) (isTm s):=by
 have h:=Evt.up (fun k i=>spec_IsTerm.l0 k s i) s.size (fun i=>((bytesOf s).drop i).all isT && decide (s.size≤12)) ?_ ?_
 ·simpa [spec_IsTerm.f,isTm] using h
 ·refine Evt.step ?_
  simp only [spec_IsTerm.l0]
  rw [List.drop_of_length_le (by rw [bytesOf_length];omega)]
  refine Evt.neg (by omega) (Evt.const ?_)
  have e:((s.size:Int)≤12)=(s.size≤12):=by apply propext;omega
  simp [e]
 ·intro i hi h
  refine Evt.step ?_
  simp only [spec_IsTerm.l0]
  refine Evt.pos (by omega) (Evt.pos (by omega) (Evt.bind (spec_LetterIndex_ev _) ?_))
  have hl:i < (bytesOf s).length:=by rw [bytesOf_length];exact hi
  rw [List.drop_eq_getElem_cons hl,← bt_get s i hl,w64s (by omega)]
  by_cases hc:ltI (bt s i) < 0
  ·refine Evt.pos hc (Evt.bindc (spec_l8Var_eq _) ?_)
   by_cases hv:isVr (bt s i)=true
   ·exact Evt.pos hv (h.cast (by simp [isT,hv]))
   ·exact Evt.neg hv (Evt.const (by simp [isT,hv,show ¬ (0≤ltI (bt s i)) by omega]))
  ·exact Evt.neg hc (h.cast (by simp [isT,show 0≤ltI (bt s i) by omega]))
theorem impl_IsTerm_ev (s:ByteArray):Evt (fun k=>impl_IsTerm.f k s) (isTm s):=by
 simp only [impl_IsTerm.f]
 by_cases h12:(s.size:Int) > 12
 ·exact Evt.pos h12 (Evt.const (by simp [isTm,show ¬ s.size≤12 by omega]))
 refine Evt.neg h12 ?_
 have h:=Evt.up (fun k i=>impl_IsTerm.l0 k s i) s.size (fun i=>((bytesOf s).drop i).all isT) ?_ ?_
 ·exact h.cast (by simp [isTm,show s.size≤12 by omega])
 ·refine Evt.step ?_
  simp only [impl_IsTerm.l0]
  rw [List.drop_of_length_le (by rw [bytesOf_length];omega)]
  exact Evt.neg (by omega) (Evt.ret _)
 ·intro i hi h
  refine Evt.step ?_
  simp only [impl_IsTerm.l0]
  refine Evt.pos (by omega) (Evt.pos (by omega) (Evt.bindc (impl_LetterIndex_eq (bt0 _ _) (bt255 _ _)) ?_))
  have hl:i < (bytesOf s).length:=by rw [bytesOf_length];exact hi
  rw [List.drop_eq_getElem_cons hl,← bt_get s i hl,w64s (by omega)]
  by_cases hc:ltI (bt s i) < 0
  ·refine Evt.pos hc (Evt.bindc (impl_isVariable_eq (bt0 _ _) (bt255 _ _)) ?_)
   by_cases hv:isVr (bt s i)=true
   ·exact Evt.pos hv (h.cast (by simp [isT,hv]))
   ·exact Evt.neg hv (Evt.const (by simp [isT,hv,show ¬ (0≤ltI (bt s i)) by omega]))
  ·exact Evt.neg hc (h.cast (by simp [isT,show 0≤ltI (bt s i) by omega]))
end Go.Proofs.YtdchpohiiigobaaDoor.F
