/- FnExactWithoutConstraint: what its proof needs, put together by this session's program wip/merge.py out of the texts that wip/xp.py printed and of this session's own. -/
import Derived.Test.YteolnmoomeenbaaQFnExactWithoutConstraint4
import Derived.Deep.RegionHeld3
import Derived.ChangeArms
import Derived.ChangeReads
import Derived.DataReads
import Derived.DataElems
import Derived.Lib.Strings
import Derived.Lib.Bytealg
set_option linter.unusedVariables false
set_option linter.unusedSimpArgs false
set_option linter.unusedSectionVars false
set_option maxHeartbeats 8000000
set_option maxRecDepth 100000
namespace Go.Proofs.Yteolnmoomeenbaa.A
open Go.RowKit Yteolnmoomeenbaa.Ext YteolnmoomeenbaaW.PrintWords YteolnmoomeenbaaW.PrintLast YteolnmoomeenbaaW.PrintMore
attribute [local go_sem] max2_int min2_int max_two min_two max_three min_three max_four min_four
def laws_szRegexSG.l0 (gF:Nat→Int→ByteArray→List (S52)→Int→Option (Int)):Nat→List (S52)→Int→Int→Option (Int)
 | 0,_,_,_=>none
 | k+1,x0,x1,x5=>if x5 < (x0.length:Int) then (if 0≤x5 then ((gF k ((rd_T52 x0 x5).f0) ((rd_T52 x0 x5).f1) ((rd_T52 x0 x5).f2) x1).bind fun t56002=>(if t56002 < 0 then (some (-1)) else (laws_szRegexSG.l0 gF k x0 t56002 (wrap64 (x5+1))))) else (none)) else (some x1)
def laws_szRegexSG.f (gF:Nat→Int→ByteArray→List (S52)→Int→Option (Int)) (k:Nat) (l0:List (S52)) (a1:Int):Option (Int):=if (wrap64 (a1 - (l0.length:Int))) < 0 then (some (-1)) else (laws_szRegexSG.l0 gF k l0 (wrap64 (a1 - (l0.length:Int))) 0)
theorem laws_szRegexSG.calls (gF:Nat→Int→ByteArray→List (S52)→Int→Option (Int)) (gC:∀ (k:Nat) (a0_0:Int) (a0_1:ByteArray) (A0_2:Option Addr) (c0_2:Nat) (l0_2:List (S52)) (a1:Int) (r:Int) (w:World) (hr0_2:Kd.C k52 w A0_2 l0_2.length l0_2) (hc0_2:l0_2.length≤c0_2) (h:gF k a0_0 a0_1 l0_2 a1=some r),Calls Try.prog 37 #[.agg #[.int .i64 a0_0,.string a0_1,.slice A0_2 l0_2.length c0_2],.int .i64 a1] w fun e w'=>e = .returned (.int .i64 r)∧Below w.heap.size w w') (k:Nat) (A0:Option Addr) (c0:Nat) (l0:List (S52)) (a1:Int) (r:Int) (w:World) (hr0:Kd.C k52 w A0 l0.length l0) (hc0:l0.length≤c0) (h:laws_szRegexSG.f gF k l0 a1=some r) :
  Calls Try.prog 56 #[.slice A0 l0.length c0,.int .i64 a1] w fun e w'=>e = .returned (.int .i64 r)∧Below w.heap.size w w':=by
 have hu52:=Try.underlying52
 have HR0:=zk hr0
 have HC0:=zk hc0
 clear hr0 hc0
 have HB:=zk (Below.refl w.heap.size w)
 have H:=h
 unfold laws_szRegexSG.f at H
 clear h
 by_cases c3:(wrap64 (a1 - (l0.length:Int))) < 0
 ·rw [if_pos c3] at H
  have c3b0:=zdl c3
  have c3w:decide ((IntKind.i64.wrap (a1 - (l0.length:Int))) < 0)=true:=by simp only [i64_w];exact c3b0
  clear c3
  obtain rfl:=zi H
  go_enter Try.func56,Try.ntmps56
  go_wp2
  go_ret
  exact ⟨za8,za5⟩
 ·rw [if_neg c3] at H
  have c3b0:=zdnl c3
  have c3w:decide ((IntKind.i64.wrap (a1 - (l0.length:Int))) < 0)=false:=by simp only [i64_w];exact c3b0
  clear c3
  have H':=zk H
  clear H
  go_enter Try.func56,Try.ntmps56
  go_wp2
  try simp only [Act.put,zt,zv,zu]
  go_loopg [1,5] k (fun kq v1 v5 w'=>∃ (x1_1:Int) (x5_1:Int),v1 = .int .i64 x1_1∧v5 = .int .i64 x5_1∧Aside0 (laws_szRegexSG.l0 gF kq l0 x1_1 x5_1=some r)∧Aside0 (kq≤k)∧Aside0 (Below w.heap.size w w'))
  case atStart=>exact ⟨(wrap64 (a1 - (l0.length:Int))),(0),za9,za9,H',⟨Nat.le_refl _⟩,⟨za5⟩⟩
  case round =>
   clear H'
   try clear c3
   try clear c3b0
   obtain ⟨x1_1,x5_1,rfl,rfl,HA,HK1,HB⟩:=hrel
   cases gk with
   | zero=>exact absurd HA.out (by simp [laws_szRegexSG.l0])
   | succ k1 =>
    have H:=HA.out
    clear HA
    simp only [laws_szRegexSG.l0] at H
    by_cases c4:x5_1 < (l0.length:Int)
    rw [if_pos c4] at H
    have c4b0:=zdl c4
    clear c4
    by_cases c5:0≤x5_1
    rw [if_pos c5] at H
    have c5b0:=zdle c5
    clear c5
    obtain ⟨t2,A6,H⟩:=zO H
    try dsimp only at H
    by_cases c7:t2 < 0
    rw [if_pos c7] at H
    have c7b0:=zdl c7
    clear c7
    obtain rfl:=zi H
    have fin0_:=zk trivial
    rotate_left
    rw [if_neg c7] at H
    have c7b0:=zdnl c7
    clear c7
    have H':=zk H
    clear H
    have fin1_:=zk trivial
    rotate_left
    · rw [if_neg c5] at H
      exact absurd H (by simp)
    · rw [if_neg c4] at H
      have c4b0:=zdnl c4
      clear c4
      obtain rfl:=zi H
      go_wp2
      go_ret
      exact ⟨za8,za5⟩
    all_goals
     have p56001:0≤(x5_1:Int):=of_decide_eq_true za7
     have q56001:x5_1 < (l0.length:Int):=of_decide_eq_true za7
     obtain ⟨ad56001,A56001_2,c56001_2,e56001,hx56001_0,hx56001_1,hx56001_2,hl56001_2,hi56001_2⟩:=at_T52 HR0.out x5_1 p56001 q56001
     cases e56001
     replace hx56001_0:=zx HB.out hx56001_0
     replace hx56001_1:=zx HB.out hx56001_1
     replace hx56001_2:=zx HB.out hx56001_2
     have HR56001_2:=zk hi56001_2
     have HC56001_2:=zk hl56001_2
     clear hi56001_2 hl56001_2
     replace p56001:=eq_true p56001
     replace q56001:=eq_true q56001
     go_wp2_with (((with_reducible refine gate_callee (f:=37) rfl ?_);refine zg (some 23) Try.func37 #[.agg #[.int .i64 ((rd_T52 l0 x5_1).f0),.string ((rd_T52 l0 x5_1).f1),.slice A56001_2 ((rd_T52 l0 x5_1).f2).length c56001_2],.int .i64 x1_1] rfl za6 ?_;(with_reducible refine (gC k1 ((rd_T52 l0 x5_1).f0) ((rd_T52 l0 x5_1).f1) _ _ ((rd_T52 l0 x5_1).f2) x1_1 t2 _ ?side1 ?side2 A6.out).mono ?_);(case side1=>repeat (first|exact (Kd.C_below HR56001_2.out HB.out)|(with_reducible refine Kd.C_alloc ?_ _)|(with_reducible refine Kd.C_drewN ?_ _)|(with_reducible refine Kd.C_drew ?_)));(case side2=>exact HC56001_2.out);rintro e w8 ⟨rfl,hb⟩;refine ⟨_,rfl,?_⟩;replace HB:=yB HB hb;(try clear hb)))
     first
     | (
       clear fin0_
       go_ret
       exact ⟨za8,za5⟩)
     | (
       clear fin1_
       go_roundg k1
       case measure=>have:=HK1.out;omega
       case rel=>exact ⟨(t2),(wrap64 (x5_1+1)),za9,za9,H',⟨za11⟩,⟨za5⟩⟩)
def laws_szRegexG.f (gF:Nat→Int→ByteArray→List (S52)→Int→Option (Int)) (k:Nat) (a0_0:Int) (a0_1:ByteArray) (l0_2:List (S52)) (a1:Int):Option (Int):=if (wrap64 (a1 - (a0_1.size:Int))) < 0 then (some (-1)) else ((laws_szRegexSG.f gF k l0_2 (wrap64 (a1 - (a0_1.size:Int)))).bind fun t37002=>(if t37002 < 0 then (some (-1)) else (some t37002)))
theorem laws_szRegexG.calls (gF:Nat→Int→ByteArray→List (S52)→Int→Option (Int)) (gC:∀ (k:Nat) (a0_0:Int) (a0_1:ByteArray) (A0_2:Option Addr) (c0_2:Nat) (l0_2:List (S52)) (a1:Int) (r:Int) (w:World) (hr0_2:Kd.C k52 w A0_2 l0_2.length l0_2) (hc0_2:l0_2.length≤c0_2) (h:gF k a0_0 a0_1 l0_2 a1=some r),Calls Try.prog 37 #[.agg #[.int .i64 a0_0,.string a0_1,.slice A0_2 l0_2.length c0_2],.int .i64 a1] w fun e w'=>e = .returned (.int .i64 r)∧Below w.heap.size w w') (k:Nat) (a0_0:Int) (a0_1:ByteArray) (A0_2:Option Addr) (c0_2:Nat) (l0_2:List (S52)) (a1:Int) (r:Int) (w:World) (hr0_2:Kd.C k52 w A0_2 l0_2.length l0_2) (hc0_2:l0_2.length≤c0_2) (h:laws_szRegexG.f gF k a0_0 a0_1 l0_2 a1=some r) :
   Calls Try.prog 37 #[.agg #[.int .i64 a0_0,.string a0_1,.slice A0_2 l0_2.length c0_2],.int .i64 a1] w fun e w'=>e = .returned (.int .i64 r)∧Below w.heap.size w w':=by
 have hu52:=Try.underlying52
 have HR0_2:=zk hr0_2
 have HC0_2:=zk hc0_2
 clear hr0_2 hc0_2
 have HB:=zk (Below.refl w.heap.size w)
 have H:=h
 unfold laws_szRegexG.f at H
 clear h
 by_cases c3:(wrap64 (a1 - (a0_1.size:Int))) < 0
 rw [if_pos c3] at H
 have c3b0:=zdl c3
 have c3w:decide ((IntKind.i64.wrap (a1 - (a0_1.size:Int))) < 0)=true:=by simp only [i64_w];exact c3b0
 clear c3
 rotate_left
 rw [if_neg c3] at H
 have c3b0:=zdnl c3
 have c3w:decide ((IntKind.i64.wrap (a1 - (a0_1.size:Int))) < 0)=false:=by simp only [i64_w];exact c3b0
 clear c3
 obtain ⟨t2,A6,H⟩:=zO H
 try dsimp only at H
 by_cases c7:t2 < 0
 rw [if_pos c7] at H
 have c7b0:=zdl c7
 clear c7
 rotate_left
 rw [if_neg c7] at H
 have c7b0:=zdnl c7
 clear c7
 rotate_left
 all_goals
  obtain rfl:=zi H
  go_enter Try.func37,Try.ntmps37
  go_wp2_with (first|((with_reducible refine gate_dst (N:=2) rfl ?_);refine zE (cs:=#[.int .i64 a0_0,.string a0_1,.slice A0_2 l0_2.length c0_2]) (t:=52) ?_;intro gb1 hg w11 hbox hb;have BK1:=zk hbox;have GW1:=zk (zs (w:=w) hg za5);have GE1:=GW1;replace HB:=yB HB hb;clear hb hbox hg;obtain ⟨hcz12_0,hcz12_1,hcz12_2,hfz12_0,hfz12_1,hfz12_2⟩:=blk3 BK1.out)|((with_reducible refine gate_callee (f:=56) rfl ?_);refine zg (some 15) Try.func56 #[.slice A0_2 l0_2.length c0_2,.int .i64 (wrap64 (a1 - (a0_1.size:Int)))] rfl za6 ?_;(with_reducible refine (laws_szRegexSG.calls gF gC k _ _ l0_2 (wrap64 (a1 - (a0_1.size:Int))) t2 _ ?side1 ?side2 A6.out).mono ?_);(case side1=>repeat (first|exact (Kd.C_below HR0_2.out HB.out)|(with_reducible refine Kd.C_alloc ?_ _)|(with_reducible refine Kd.C_drewN ?_ _)|(with_reducible refine Kd.C_drew ?_)));(case side2=>exact HC0_2.out);rintro e w13 ⟨rfl,hb⟩;refine ⟨_,rfl,?_⟩;replace BK1:=yb BK1 hb;replace HB:=yB HB hb;(try clear hb)))
  go_ret
  exact ⟨za8,za5⟩
def laws_szRegex.f:Nat→Int→ByteArray→List (S52)→Int→Option (Int)
 | 0,_,_,_,_=>none
 | K+1,a0_,a1_,a2_,a3_=>laws_szRegexG.f (fun _=>laws_szRegex.f K) K a0_ a1_ a2_ a3_
theorem laws_szRegex.calls (k:Nat) (a0_0:Int) (a0_1:ByteArray) (A0_2:Option Addr) (c0_2:Nat) (l0_2:List (S52)) (a1:Int) (r:Int) (w:World) (hr0_2:Kd.C k52 w A0_2 l0_2.length l0_2) (hc0_2:l0_2.length≤c0_2) (h:laws_szRegex.f k a0_0 a0_1 l0_2 a1=some r) :
  Calls Try.prog 37 #[.agg #[.int .i64 a0_0,.string a0_1,.slice A0_2 l0_2.length c0_2],.int .i64 a1] w fun e w'=>e = .returned (.int .i64 r)∧Below w.heap.size w w':=by
 induction k generalizing a0_0 a0_1 A0_2 c0_2 l0_2 a1 r w hr0_2 hc0_2 with
 | zero=>exact absurd h (by simp [laws_szRegex.f])
 | succ K ih=>exact laws_szRegexG.calls (fun _=>laws_szRegex.f K) (fun k a0_0 a0_1 A0_2 c0_2 l0_2 a1 r w hr0_2 hc0_2 h=>ih a0_0 a0_1 A0_2 c0_2 l0_2 a1 r w hr0_2 hc0_2 h) K a0_0 a0_1 A0_2 c0_2 l0_2 a1 r w hr0_2 hc0_2 h
def laws_toRegexSG.l0 (gF:Nat→Int→ByteArray→List (S52)→Option (Int × ByteArray × (List (S43)))):Nat→List (S52)→List (S43)→Int→Option ((List (S43)))
 | 0,_,_,_=>none
 | k+1,x0,x3,x4=>if x4 < (x0.length:Int) then (if 0≤x4 then ((gF k ((rd_T52 x0 x4).f0) ((rd_T52 x0 x4).f1) ((rd_T52 x0 x4).f2)).bind fun bt62005=>(if x4 < (x3.length:Int) then (laws_toRegexSG.l0 gF k x0 (x3.set (x4:Int).toNat (⟨bt62005.1,bt62005.2.1,bt62005.2.2⟩:S43)) (wrap64 (x4+1))) else (none))) else (none)) else (some x3)
def laws_toRegexSG.f (gF:Nat→Int→ByteArray→List (S52)→Option (Int × ByteArray × (List (S43)))) (k:Nat) (l0:List (S52)):Option ((List (S43))):=if 0≤(l0.length:Int) then (if ((l0.length:Int):Int).toNat≤5864062014805 then (laws_toRegexSG.l0 gF k l0 (List.replicate ((l0.length:Int):Int).toNat z43) 0) else (none)) else (none)
theorem laws_toRegexSG.calls (gF:Nat→Int→ByteArray→List (S52)→Option (Int × ByteArray × (List (S43)))) (gC:∀ (k:Nat) (a0_0:Int) (a0_1:ByteArray) (A0_2:Option Addr) (c0_2:Nat) (l0_2:List (S52)) (r1:Int) (r2:ByteArray) (r3:List (S43)) (w:World) (hr0_2:Kd.C k52 w A0_2 l0_2.length l0_2) (hc0_2:l0_2.length≤c0_2) (h:gF k a0_0 a0_1 l0_2=some (r1,r2,r3)),Calls Try.prog 44 #[.agg #[.int .i64 a0_0,.string a0_1,.slice A0_2 l0_2.length c0_2]] w fun e w'=>∃ v2_:Value,e = .returned (.agg #[.int .i64 r1,.string r2,v2_])∧Kd.R k43 43 w' w.heap.size (fun _=>True) v2_ r3∧Below w.heap.size w w') (k:Nat) (A0:Option Addr) (c0:Nat) (l0:List (S52)) (r:List (S43)) (w:World) (hr0:Kd.C k52 w A0 l0.length l0) (hc0:l0.length≤c0) (h:laws_toRegexSG.f gF k l0=some r) :
  Calls Try.prog 62 #[.slice A0 l0.length c0] w fun e w'=>∃ v0_:Value,e = .returned (v0_)∧Kd.R k43 43 w' w.heap.size (fun _=>True) v0_ r∧Below w.heap.size w w':=by
 have hu52:=Try.underlying52
 have hu43:=Try.underlying43
 have HR0:=zk hr0
 have HC0:=zk hc0
 clear hr0 hc0
 have HB:=zk (Below.refl w.heap.size w)
 have H:=h
 unfold laws_toRegexSG.f at H
 clear h
 by_cases c2:0≤(l0.length:Int)
 rw [if_pos c2] at H
 have c2b0:=eq_true c2
 have c2b1:=zdle c2
 clear c2
 by_cases c3:((l0.length:Int):Int).toNat≤5864062014805
 ·rw [if_pos c3] at H
  have c3b0:=eq_true c3
  have c3b1:=zdle c3
  clear c3
  obtain ⟨y62001,hy62001⟩:∃ y_:List (S43),y_=(List.replicate ((l0.length:Int):Int).toNat z43):=⟨_,rfl⟩
  replace H:(laws_toRegexSG.l0 gF k l0 y62001 0)=some r:=by first|(rw [hy62001];with_reducible exact H)|(have H2_:=(Option.bind_some _ _).symm.trans H;rw [hy62001];with_reducible exact H2_)|(have H2_:=(Option.bind_some _ _).symm.trans H;with_reducible exact H2_)|with_reducible exact H|(rw [hy62001];exact H)|exact H
  have Ny1:=zk hy62001
  clear hy62001
  have H':=zk H
  clear H
  go_enter Try.func62,Try.ntmps62
  go_wp2_with (first|((with_reducible refine gate_dst (N:=7) rfl ?_);refine Kd.R_make k43 _ 43 rfl (N:=7) rfl 41 _ _ rfl (l0.length:Int) rfl rfl Try.underlying41 (.agg #[(.int .i64 0),(.string ⟨#[]⟩),(.slice none 0 0)]) 48 info43 rfl (by decide) (by omega) z43 (ok:=fun _=>True) (okp:=fun _=>True) (k43_mkM _ _ _ z43 (Kd.R_nil _ _ _ _ _)) (fun _ hk=>hk) trivial (of_decide_eq_true za7) (Nat.le_trans (Nat.mul_le_mul_right _ (of_decide_eq_true za7:(l0.length:Int).toNat≤5864062014805)) (by omega)) (Below.refl _ _) (Nat.le_refl _) ?_;intro v2 w4 ho5 hb hg_ hnew_;clear hg_ hnew_;(first|rw [← Ny1.out] at ho5|(simp only [Int.reduceToNat] at ho5;rw [← Ny1.out] at ho5));have HO3:=zk (Kd.R_lower ho5 (below_size za5));replace HB:=yB HB hb;clear hb ho5))
  try simp only [Act.put,zt,zv,zu]
  go_loopg [4] k (fun kq v4 w'=>∃ (x3_1:List (S43)) (x4_1:Int),v4 = .int .i64 x4_1∧Aside0 (laws_toRegexSG.l0 gF kq l0 x3_1 x4_1=some r)∧Aside0 (kq≤k)∧Aside0 (Kd.R k43 43 w' w.heap.size (fun _=>True) v2 x3_1)∧Aside0 (Below w.heap.size w w'))
  case atStart=>exact ⟨(y62001),(0),za9,H',⟨Nat.le_refl _⟩,⟨za2 HO3.out⟩,⟨za5⟩⟩
  case round =>
   clear H'
   try clear c3
   try clear c3b0
   try clear c3b1
   obtain ⟨x3_1,x4_1,rfl,HA,HK1,HO_3,HB⟩:=hrel
   cases gk with
   | zero=>exact absurd HA.out (by simp [laws_toRegexSG.l0])
   | succ k1 =>
    have H:=HA.out
    clear HA
    simp only [laws_toRegexSG.l0] at H
    by_cases c6:x4_1 < (l0.length:Int)
    rw [if_pos c6] at H
    have c6b0:=zdl c6
    clear c6
    by_cases c7:0≤x4_1
    rw [if_pos c7] at H
    have c7b0:=zdle c7
    clear c7
    obtain ⟨⟨t5,t6,t7⟩,A8,H⟩:=zO H
    try dsimp only at H
    by_cases c9:x4_1 < (x3_1.length:Int)
    ·rw [if_pos c9] at H
     have c9b0:=zdl c9
     clear c9
     obtain ⟨y62010,hy62010⟩:∃ y_:List (S43),y_=(x3_1.set (x4_1:Int).toNat (⟨t5,t6,t7⟩:S43)):=⟨_,rfl⟩
     replace H:(laws_toRegexSG.l0 gF k1 l0 y62010 (wrap64 (x4_1+1)))=some r:=by first|(rw [hy62010];with_reducible exact H)|(have H2_:=(Option.bind_some _ _).symm.trans H;rw [hy62010];with_reducible exact H2_)|(have H2_:=(Option.bind_some _ _).symm.trans H;with_reducible exact H2_)|with_reducible exact H|(rw [hy62010];exact H)|exact H
     have Ny10:=zk hy62010
     clear hy62010
     have H':=zk H
     clear H
     have p62004:0≤(x4_1:Int):=of_decide_eq_true za7
     have q62004:x4_1 < (l0.length:Int):=of_decide_eq_true za7
     obtain ⟨ad62004,A62004_2,c62004_2,e62004,hx62004_0,hx62004_1,hx62004_2,hl62004_2,hi62004_2⟩:=at_T52 HR0.out x4_1 p62004 q62004
     cases e62004
     replace hx62004_0:=zx HB.out hx62004_0
     replace hx62004_1:=zx HB.out hx62004_1
     replace hx62004_2:=zx HB.out hx62004_2
     have HR62004_2:=zk hi62004_2
     have HC62004_2:=zk hl62004_2
     clear hi62004_2 hl62004_2
     replace p62004:=eq_true p62004
     replace q62004:=eq_true q62004
     go_wp2_with (first|((with_reducible refine gate_callee (f:=44) rfl ?_);refine zg (some 20) Try.func44 #[.agg #[.int .i64 ((rd_T52 l0 x4_1).f0),.string ((rd_T52 l0 x4_1).f1),.slice A62004_2 ((rd_T52 l0 x4_1).f2).length c62004_2]] rfl za6 ?_;(with_reducible refine (gC k1 ((rd_T52 l0 x4_1).f0) ((rd_T52 l0 x4_1).f1) _ _ ((rd_T52 l0 x4_1).f2) t5 t6 t7 _ ?side1 ?side2 A8.out).mono ?_);(case side1=>repeat (first|exact (Kd.C_below HR62004_2.out HB.out)|(with_reducible refine Kd.C_alloc ?_ _)|(with_reducible refine Kd.C_drewN ?_ _)|(with_reducible refine Kd.C_drew ?_)));(case side2=>exact HC62004_2.out);rintro e w11 ⟨v8,rfl,ho0,hb⟩;refine ⟨_,rfl,?_⟩;have HO9:=zk (Kd.R_lower (Kd.R_new' ho0 (Kd.R_lt (za2 HO_3.out))) (below_size za5));replace HO_3:=zk (Kd.R_elder' (za2 HO_3.out) (Kd.R_base ho0) hb);replace HB:=yB HB hb;(try clear hb ho0);have p10:0≤(x4_1:Int):=of_decide_eq_true za7;have q10:(x4_1:Int) < ((x3_1.length:Int):Int):=of_decide_eq_true za7;obtain ⟨go10,co10,eo10,gb10,gl10,cl10,HG10⟩:=Kd.R_form HO_3.out (by omega);(first|cases eo10|(injection eo10 with ea_ en_ ec_;(first|subst ea_|(injection ea_ with ea_;subst ea_));subst ec_;clear en_));have GB10:=zk gb10;have GG10:=zk HG10;clear gb10 gl10 HG10;obtain ⟨ce10,hcl10,hM10,hcc10,hfr10⟩:=Kd.R_elem HO_3.out z43 (x4_1:Int) p10 q10;obtain ⟨ve10_2,rfl,ge10_2⟩:=k43_openM hM10;have hx10_0:w11.cell? ⟨go10,(x4_1:Int).toNat * 3,none⟩=some (.int .i64 ((rd_T43 x3_1 x4_1).f0)):=hcc10 0 _ rfl;have hx10_1:w11.cell? ⟨go10,(x4_1:Int).toNat * 3+1,none⟩=some (.string ((rd_T43 x3_1 x4_1).f1)):=hcc10 1 _ rfl;have hx10_2:w11.cell? ⟨go10,(x4_1:Int).toNat * 3+2,none⟩=some (ve10_2):=hcc10 2 _ rfl;have hf10_0:w11.frozen? ⟨go10,(x4_1:Int).toNat * 3,none⟩=false:=hfr10 0;have hf10_1:w11.frozen? ⟨go10,(x4_1:Int).toNat * 3+1,none⟩=false:=hfr10 1;have hf10_2:w11.frozen? ⟨go10,(x4_1:Int).toNat * 3+2,none⟩=false:=hfr10 2;clear hcl10 hcc10 hfr10;(try clear hM10);replace p10:=eq_true p10;replace q10:=eq_true q10;have n_:=zk (Kd.R_mono (ok':=(fun k_=>some k_ ≠ (v8:Value).ownBlock)) HO_3.out (fun k_ hk=>hk.2));clear HO_3;have HO_3:=n_;clear n_;have HX12:=zk (show Kd.R k43 43 w11 w.heap.size (fun _=>True) (.slice (some ⟨go10,0,none⟩) x3_1.length co10) x3_1 from (by (with_reducible repeat (first|apply Kd.R_alloc|apply Kd.R_drewN|apply Kd.R_drew));exact Kd.R_mono HO_3.out (fun _ hk=>trivial)));obtain ⟨ce12,hcl12,hM12,hcc12,hfr12⟩:=Kd.R_elem HX12.out z43 (x4_1:Int) (of_decide_eq_true za7) (by have h_:(x4_1:Int) < ((x3_1.length:Int):Int):=of_decide_eq_true za7;first|exact h_|(have e_:=(Kd.R_reads' HO_3.out).1;omega)|simpa using h_);obtain ⟨ve12_2,rfl,ge12_2⟩:=k43_openM hM12;have HP12:=Kd.R_seg HX12.out (x4_1:Int) (of_decide_eq_true za7) (by have h_:(x4_1:Int) < ((x3_1.length:Int):Int):=of_decide_eq_true za7;first|exact h_|(have e_:=(Kd.R_reads' HO_3.out).1;omega)|simpa using h_) (seg:=[.int .i64 t5,.string t6,v8]) (j:=0) hcl12 hcc12 (show 3≤3 from by decide) (x':=(⟨t5,t6,t7⟩:S43)) (k43_mkM _ _ _ (⟨t5,t6,t7⟩:S43) (Kd.R_mono (HO9.out) (fun k_ hk=>⟨trivial,fun e_=>(hk.2) (by rw [e_];rfl)⟩))) (fun _ hk=>hk);have hx12_0:=hcc12 0 _ rfl;(try simp only [show (k43).sz=3 from rfl,Nat.mul_one,Nat.add_zero] at hx12_0);have hf12_0:=hfr12 0;(try simp only [show (k43).sz=3 from rfl,Nat.mul_one,Nat.add_zero] at hf12_0);have hx12_1:=hcc12 1 _ rfl;(try simp only [show (k43).sz=3 from rfl,Nat.mul_one,Nat.add_zero] at hx12_1);have hf12_1:=hfr12 1;(try simp only [show (k43).sz=3 from rfl,Nat.mul_one,Nat.add_zero] at hf12_1);have hx12_2:=hcc12 2 _ rfl;(try simp only [show (k43).sz=3 from rfl,Nat.mul_one,Nat.add_zero] at hx12_2);have hf12_2:=hfr12 2;(try simp only [show (k43).sz=3 from rfl,Nat.mul_one,Nat.add_zero] at hf12_2);clear hcl12 hcc12 hfr12;(try clear hM12))|((with_reducible refine gate_store (t:=43) (p:=21) rfl ?_);refine store_event (t:=43) (p:=21) (v:=?vo_w13) (w1:=(((w11.setCell ⟨go10,(x4_1:Int).toNat * 3,none⟩ (.int .i64 t5)).setCell ⟨go10,(x4_1:Int).toNat * 3+1,none⟩ (.string t6)).setCell ⟨go10,(x4_1:Int).toNat * 3+2,none⟩ (v8))) ?hg ?ho ?hn ?hr ?_;(case ho=>rfl);(case hg=>rfl);(case hn=>rfl);(case hr=>first|(go_simp;done)|(go_simp;rfl)|(obtain ⟨sA_,sc_,se_⟩:=Kd.R_slice HO9.out;subst se_;first|(go_simp;done)|(go_simp;rfl)));intro w13 hw;have hg:w11.grownBy w13 (some go10):=(by rw [hw];exact HP12.2);have hp_:Kd.R k43 43 w13 w.heap.size (fun _=>True) (.slice (some ⟨go10,0,none⟩) x3_1.length co10) y62010:=(by rw [hw,Ny10.out];exact HP12.1);clear HP12;replace HO_3:=zk hp_;replace HB:=zk ((by rw [hw];exact below_set (below_set (below_set (HB.out) GB10.out) GB10.out) GB10.out:Below w.heap.size w w13));clear HO9;clear hg hw hp_))
     go_roundg k1
     case measure=>have:=HK1.out;omega
     case rel=>exact ⟨(y62010),(wrap64 (x4_1+1)),za9,H',⟨za11⟩,⟨za2 HO_3.out⟩,⟨za5⟩⟩
    ·rw [if_neg c9] at H
     exact absurd H (by simp)
    ·rw [if_neg c7] at H
     exact absurd H (by simp)
    ·rw [if_neg c6] at H
     have c6b0:=zdnl c6
     clear c6
     obtain rfl:=zi H
     go_wp2
     go_ret
     exact ⟨_,za8,za2 HO_3.out,za5⟩
 ·rw [if_neg c3] at H
  exact absurd H (by simp)
 ·rw [if_neg c2] at H
  exact absurd H (by simp)
def laws_toRegexG.f (gF:Nat→Int→ByteArray→List (S52)→Option (Int × ByteArray × (List (S43)))) (k:Nat) (a0_0:Int) (a0_1:ByteArray) (l0_2:List (S52)):Option (Int × ByteArray × (List (S43))):=(laws_toRegexSG.f gF k l0_2).bind fun t44004=>(some (a0_0,a0_1,t44004))
theorem laws_toRegexG.calls (gF:Nat→Int→ByteArray→List (S52)→Option (Int × ByteArray × (List (S43)))) (gC:∀ (k:Nat) (a0_0:Int) (a0_1:ByteArray) (A0_2:Option Addr) (c0_2:Nat) (l0_2:List (S52)) (r1:Int) (r2:ByteArray) (r3:List (S43)) (w:World) (hr0_2:Kd.C k52 w A0_2 l0_2.length l0_2) (hc0_2:l0_2.length≤c0_2) (h:gF k a0_0 a0_1 l0_2=some (r1,r2,r3)),Calls Try.prog 44 #[.agg #[.int .i64 a0_0,.string a0_1,.slice A0_2 l0_2.length c0_2]] w fun e w'=>∃ v2_:Value,e = .returned (.agg #[.int .i64 r1,.string r2,v2_])∧Kd.R k43 43 w' w.heap.size (fun _=>True) v2_ r3∧Below w.heap.size w w') (k:Nat) (a0_0:Int) (a0_1:ByteArray) (A0_2:Option Addr) (c0_2:Nat) (l0_2:List (S52)) (r1:Int) (r2:ByteArray) (r3:List (S43)) (w:World) (hr0_2:Kd.C k52 w A0_2 l0_2.length l0_2) (hc0_2:l0_2.length≤c0_2) (h:laws_toRegexG.f gF k a0_0 a0_1 l0_2=some (r1,r2,r3)) :
  Calls Try.prog 44 #[.agg #[.int .i64 a0_0,.string a0_1,.slice A0_2 l0_2.length c0_2]] w fun e w'=>∃ v2_:Value,e = .returned (.agg #[.int .i64 r1,.string r2,v2_])∧Kd.R k43 43 w' w.heap.size (fun _=>True) v2_ r3∧Below w.heap.size w w':=by
 have hu52:=Try.underlying52
 have hu43:=Try.underlying43
 have HR0_2:=zk hr0_2
 have HC0_2:=zk hc0_2
 clear hr0_2 hc0_2
 have HB:=zk (Below.refl w.heap.size w)
 have H:=h
 unfold laws_toRegexG.f at H
 clear h
 obtain ⟨t4,A2,H⟩:=zO H
 try dsimp only at H
 simp only [Option.some.injEq,Prod.mk.injEq] at H
 obtain ⟨rfl,rfl,rfl⟩:=H
 go_enter Try.func44,Try.ntmps44
 go_wp2_with (first|((with_reducible refine gate_dst (N:=1) rfl ?_);refine zE (cs:=#[.int .i64 a0_0,.string a0_1,.slice A0_2 l0_2.length c0_2]) (t:=52) ?_;intro gb1 hg w3 hbox hb;have BK1:=zk hbox;have GW1:=zk (zs (w:=w) hg za5);have GE1:=GW1;replace HB:=yB HB hb;clear hb hbox hg)|((with_reducible refine gate_dst (N:=2) rfl ?_);refine zE (cs:=#[.int .i64 0,.string ⟨#[]⟩,.slice none 0 0]) (t:=43) ?_;intro gb2 hg w4 hbox hb;have BK2:=zk hbox;have GW2:=zk (zs (w:=w) hg za5);have GE2:=GW2;have NB1_2:=yn hg BK1;have NB2_1:=yp hg BK1;replace BK1:=yb BK1 hb;replace HB:=yB HB hb;clear hb hbox hg)|((with_reducible refine gate_dst (N:=3) rfl ?_);refine zE (cs:=#[.int .i64 0,.string ⟨#[]⟩,.slice none 0 0]) (t:=43) ?_;intro gb3 hg w5 hbox hb;have BK3:=zk hbox;have GW3:=zk (zs (w:=w) hg za5);have GE3:=GW3;have NB1_3:=yn hg BK1;have NB3_1:=yp hg BK1;have NB2_3:=yn hg BK2;have NB3_2:=yp hg BK2;replace BK1:=yb BK1 hb;replace BK2:=yb BK2 hb;replace HB:=yB HB hb;clear hb hbox hg;have hnb6:=NB1_2.out;have hnc6:=NB2_1.out;have hnb7:=NB1_3.out;have hnc7:=NB3_1.out;obtain ⟨hcz8_0,hcz8_1,hcz8_2,hfz8_0,hfz8_1,hfz8_2⟩:=blk3 BK1.out;have hnb9:=NB3_2.out;have hnc9:=NB2_3.out;obtain ⟨hcz10_0,hcz10_1,hcz10_2,hfz10_0,hfz10_1,hfz10_2⟩:=blk3 BK3.out)|((with_reducible refine gate_callee (f:=62) rfl ?_);refine zg (some 12) Try.func62 #[.slice A0_2 l0_2.length c0_2] rfl za6 ?_;(with_reducible refine (laws_toRegexSG.calls gF gC k _ _ l0_2 t4 _ ?side1 ?side2 A2.out).mono ?_);(case side1=>exact Kd.C_below HR0_2.out za5);(case side2=>exact HC0_2.out);rintro e w11 ⟨v5,rfl,ho0,hb⟩;refine ⟨_,rfl,?_⟩;have HO6:=zk (Kd.R_lower (Kd.R_newB (Kd.R_newB ho0 (g:=gb2) (o:=.cells #[.int .i64 0,.string ⟨#[]⟩,.slice none 0 0] 43 (0,0)) (zpw BK2.out)) (g:=gb3) (o:=.cells #[.int .i64 a0_0,.string a0_1,.slice none 0 0] 43 (0,0)) (zpu BK3.out)) (below_size za5));replace BK1:=zk (blk_below (g:=gb1) (o:=.cells #[.int .i64 a0_0,.string a0_1,.slice A0_2 l0_2.length c0_2] 52 (0,0)) (zpw BK1.out) hb);replace BK2:=zk (blk_below (g:=gb2) (o:=.cells #[.int .i64 0,.string ⟨#[]⟩,.slice none 0 0] 43 (0,0)) (zpw BK2.out) hb);replace BK3:=zk (blk_below (g:=gb3) (o:=.cells #[.int .i64 a0_0,.string a0_1,.slice none 0 0] 43 (0,0)) (zpu BK3.out) hb);replace HB:=yB HB hb;(try clear hb ho0);obtain ⟨Ao12,co12,eo12⟩:=Kd.R_slice HO6.out;subst eo12;obtain ⟨hcz13_0,hcz13_1,hcz13_2,hfz13_0,hfz13_1,hfz13_2⟩:=blk3 BK3.out;obtain ⟨hcz14_0,hcz14_1,hcz14_2,hfz14_0,hfz14_1,hfz14_2⟩:=blk3 BK2.out))
 refine bodyPost_ret (results_cell_row rfl _ _ gb2 43 #[.int .i64 a0_0,.string a0_1,.slice Ao12 t4.length co12] (0,0) _ rfl (zpw BK2.out) Try.underlying43 rfl (by kernel_rfl)) rfl ?_
 exact ⟨_,za8,by (with_reducible repeat (first|apply Kd.R_alloc|apply Kd.R_drewN|apply Kd.R_drew));exact Kd.R_mono (zfR (zfR (zfR (Kd.R_far (p:=⟨gb3,2,none⟩) (Kd.R_mono (Kd.R_mono HO6.out (fun k_ hk=>(⟨hk,hk.2⟩:_∧k_ ≠ gb3))) (fun k_ hk=>(⟨hk,hk.1.1.2⟩:_∧k_ ≠ gb2))) (fun _ hk=>hk.1.2) (.slice Ao12 t4.length co12))))) (fun _ hk=>trivial),za5⟩
def laws_toRegex.f:Nat→Int→ByteArray→List (S52)→Option (Int × ByteArray × (List (S43)))
 | 0,_,_,_=>none
 | K+1,a0_,a1_,a2_=>laws_toRegexG.f (fun _=>laws_toRegex.f K) K a0_ a1_ a2_
theorem laws_toRegex.calls (k:Nat) (a0_0:Int) (a0_1:ByteArray) (A0_2:Option Addr) (c0_2:Nat) (l0_2:List (S52)) (r1:Int) (r2:ByteArray) (r3:List (S43)) (w:World) (hr0_2:Kd.C k52 w A0_2 l0_2.length l0_2) (hc0_2:l0_2.length≤c0_2) (h:laws_toRegex.f k a0_0 a0_1 l0_2=some (r1,r2,r3)) :
  Calls Try.prog 44 #[.agg #[.int .i64 a0_0,.string a0_1,.slice A0_2 l0_2.length c0_2]] w fun e w'=>∃ v2_:Value,e = .returned (.agg #[.int .i64 r1,.string r2,v2_])∧Kd.R k43 43 w' w.heap.size (fun _=>True) v2_ r3∧Below w.heap.size w w':=by
 induction k generalizing a0_0 a0_1 A0_2 c0_2 l0_2 r1 r2 r3 w hr0_2 hc0_2 with
 | zero=>exact absurd h (by simp [laws_toRegex.f])
 | succ K ih=>exact laws_toRegexG.calls (fun _=>laws_toRegex.f K) (fun k a0_0 a0_1 A0_2 c0_2 l0_2 r1 r2 r3 w hr0_2 hc0_2 h=>ih a0_0 a0_1 A0_2 c0_2 l0_2 r1 r2 r3 w hr0_2 hc0_2 h) K a0_0 a0_1 A0_2 c0_2 l0_2 r1 r2 r3 w hr0_2 hc0_2 h
def laws_eqRegexSG.l0 (gF:Nat→Int→ByteArray→List (S43)→Int→ByteArray→List (S43)→Option (Bool)):Nat→List (S43)→List (S43)→Int→Option (Bool)
 | 0,_,_,_=>none
 | k+1,x0,x1,x5=>if x5 < (x0.length:Int) then (if 0≤x5 then (if x5 < (x1.length:Int) then ((gF k ((rd_T43 x0 x5).f0) ((rd_T43 x0 x5).f1) ((rd_T43 x0 x5).f2) ((rd_T43 x1 x5).f0) ((rd_T43 x1 x5).f1) ((rd_T43 x1 x5).f2)).bind fun t67003=>(if t67003=true then (laws_eqRegexSG.l0 gF k x0 x1 (wrap64 (x5+1))) else (some false))) else (none)) else (none)) else (some true)
def laws_eqRegexSG.f (gF:Nat→Int→ByteArray→List (S43)→Int→ByteArray→List (S43)→Option (Bool)) (k:Nat) (l0:List (S43)) (l1:List (S43)):Option (Bool):=if (l0.length:Int)=(l1.length:Int) then (laws_eqRegexSG.l0 gF k l0 l1 0) else (some false)
def laws_eqRegexSG.T6:Bool × List (List Nat × List Nat):=(true,[([],[]),([],[]),([0,1],[0,1]),([2],[2]),([],[]),([],[]),([4,5],[4,5]),([6],[6]),([3,7],[3,7]),([8],[8])])
def laws_eqRegexSG.B6:List Nat:=[0,0,3,7,0,0,48,112,255,511]
theorem laws_eqRegexSG.tab6:rtab .any (opsOf Try.f67 6)=laws_eqRegexSG.T6:=by kernel_rfl
theorem laws_eqRegexSG.bits6:waitsOk laws_eqRegexSG.T6.2 laws_eqRegexSG.B6=true:=by kernel_rfl
theorem laws_eqRegexSG.calls (gF:Nat→Int→ByteArray→List (S43)→Int→ByteArray→List (S43)→Option (Bool)) (gC:∀ (k:Nat) (a0_0:Int) (a0_1:ByteArray) (A0_2:Option Addr) (c0_2:Nat) (l0_2:List (S43)) (a1_0:Int) (a1_1:ByteArray) (A1_2:Option Addr) (c1_2:Nat) (l1_2:List (S43)) (r:Bool) (w:World) (hr0_2:Kd.C k43 w A0_2 l0_2.length l0_2) (hc0_2:l0_2.length≤c0_2) (hr1_2:Kd.C k43 w A1_2 l1_2.length l1_2) (hc1_2:l1_2.length≤c1_2) (h:gF k a0_0 a0_1 l0_2 a1_0 a1_1 l1_2=some r),Calls Try.prog 54 #[.agg #[.int .i64 a0_0,.string a0_1,.slice A0_2 l0_2.length c0_2],.agg #[.int .i64 a1_0,.string a1_1,.slice A1_2 l1_2.length c1_2]] w fun e w'=>e = .returned (.bool r)∧Below w.heap.size w w') (k:Nat) (A0:Option Addr) (c0:Nat) (l0:List (S43)) (A1:Option Addr) (c1:Nat) (l1:List (S43)) (r:Bool) (w:World) (hr0:Kd.C k43 w A0 l0.length l0) (hc0:l0.length≤c0) (hr1:Kd.C k43 w A1 l1.length l1) (hc1:l1.length≤c1) (h:laws_eqRegexSG.f gF k l0 l1=some r) :
  Calls Try.prog 67 #[.slice A0 l0.length c0,.slice A1 l1.length c1] w fun e w'=>e = .returned (.bool r)∧Below w.heap.size w w':=by
 have hu43:=Try.underlying43
 have HR0:=zk hr0
 have HC0:=zk hc0
 clear hr0 hc0
 have HR1:=zk hr1
 have HC1:=zk hc1
 clear hr1 hc1
 have HB:=zk (Below.refl w.heap.size w)
 have H:=h
 unfold laws_eqRegexSG.f at H
 clear h
 by_cases c3:(l0.length:Int)=(l1.length:Int)
 ·rw [if_pos c3] at H
  have c3b0:=zbt c3
  have c3b1:=zqn c3
  have c3b2:(l0.length == l1.length)=true:=by first|simpa using c3|(simp at c3 ⊢;omega)
  clear c3
  have H':=zk H
  clear H
  go_enter Try.func67,Try.ntmps67
  go_wp2
  try simp only [Act.put,zt,zv,zu]
  go_loopg [5] k (fun kq v5 w'=>∃ (x5_1:Int),v5 = .int .i64 x5_1∧Aside0 (laws_eqRegexSG.l0 gF kq l0 l1 x5_1=some r)∧Aside0 (kq≤k)∧Aside0 (Below w.heap.size w w'))
  case atStart=>exact ⟨(0),za9,H',⟨Nat.le_refl _⟩,⟨za5⟩⟩
  case round =>
   clear H'
   try clear c3
   try clear c3b0
   try clear c3b1
   try clear c3b2
   obtain ⟨x5_1,rfl,HA,HK1,HB⟩:=hrel
   cases gk with
   | zero=>exact absurd HA.out (by simp [laws_eqRegexSG.l0])
   | succ k1 =>
    have H:=HA.out
    clear HA
    simp only [laws_eqRegexSG.l0] at H
    by_cases c4:x5_1 < (l0.length:Int)
    rw [if_pos c4] at H
    have c4b0:=zdl c4
    clear c4
    by_cases c5:0≤x5_1
    rw [if_pos c5] at H
    have c5b0:=zdle c5
    clear c5
    by_cases c6:x5_1 < (l1.length:Int)
    rw [if_pos c6] at H
    have c6b0:=zdl c6
    clear c6
    obtain ⟨t3,A7,H⟩:=zO H
    try dsimp only at H
    by_cases c8:t3=true
    ·subst c8
     rw [if_pos rfl] at H
     try dsimp only at H
     have H':=zk H
     clear H
     try go_wp2
     replace HB:=zk (below_drew1 HB.out)
     have p67001:0≤(x5_1:Int):=of_decide_eq_true za7
     have q67001:x5_1 < (l0.length:Int):=of_decide_eq_true za7
     obtain ⟨ad67001,A67001_2,c67001_2,e67001,hx67001_0,hx67001_1,hx67001_2,hl67001_2,hi67001_2⟩:=at_T43 HR0.out x5_1 p67001 q67001
     have hw67001_2:=hx67001_2
     have hw67001_1:=hx67001_1
     have hw67001_0:=hx67001_0
     cases e67001
     replace hx67001_0:=zx HB.out hx67001_0
     replace hx67001_1:=zx HB.out hx67001_1
     replace hx67001_2:=zx HB.out hx67001_2
     have HR67001_2:=zk hi67001_2
     have HC67001_2:=zk hl67001_2
     clear hi67001_2 hl67001_2
     replace p67001:=eq_true p67001
     replace q67001:=eq_true q67001
     have p67002:0≤(x5_1:Int):=of_decide_eq_true za7
     have q67002:x5_1 < (l1.length:Int):=of_decide_eq_true za7
     obtain ⟨ad67002,A67002_2,c67002_2,e67002,hx67002_0,hx67002_1,hx67002_2,hl67002_2,hi67002_2⟩:=at_T43 HR1.out x5_1 p67002 q67002
     have hw67002_2:=hx67002_2
     have hw67002_1:=hx67002_1
     have hw67002_0:=hx67002_0
     cases e67002
     replace hx67002_0:=zx HB.out hx67002_0
     replace hx67002_1:=zx HB.out hx67002_1
     replace hx67002_2:=zx HB.out hx67002_2
     have HR67002_2:=zk hi67002_2
     have HC67002_2:=zk hl67002_2
     clear hi67002_2 hl67002_2
     replace p67002:=eq_true p67002
     replace q67002:=eq_true q67002
     refine start_ (n:=10) (S:=fun w'=>w'.cell? (ad67001.add ((x5_1).toNat * 3))=some (.int .i64 ((rd_T43 l0 x5_1).f0))∧w'.cell? ⟨(ad67001.add ((x5_1).toNat * 3)).block,(ad67001.add ((x5_1).toNat * 3)).off+1,none⟩=some (.string ((rd_T43 l0 x5_1).f1))∧w'.cell? ⟨(ad67001.add ((x5_1).toNat * 3)).block,(ad67001.add ((x5_1).toNat * 3)).off+2,none⟩=some (.slice A67001_2 ((rd_T43 l0 x5_1).f2).length c67001_2)∧w'.cell? (ad67002.add ((x5_1).toNat * 3))=some (.int .i64 ((rd_T43 l1 x5_1).f0))∧w'.cell? ⟨(ad67002.add ((x5_1).toNat * 3)).block,(ad67002.add ((x5_1).toNat * 3)).off+1,none⟩=some (.string ((rd_T43 l1 x5_1).f1))∧w'.cell? ⟨(ad67002.add ((x5_1).toNat * 3)).block,(ad67002.add ((x5_1).toNat * 3)).off+2,none⟩=some (.slice A67002_2 ((rd_T43 l1 x5_1).f2).length c67002_2)) (ds:=[]) #[false,false,false,false,false,false,false,false,false,false] (by kernel_rfl) rfl rfl ⟨((HB.out.cell (World.block_lt_of_cell? w _ hw67001_0)).trans hw67001_0),((HB.out.cell (World.block_lt_of_cell? w _ hw67001_1)).trans hw67001_1),((HB.out.cell (World.block_lt_of_cell? w _ hw67001_2)).trans hw67001_2),((HB.out.cell (World.block_lt_of_cell? w _ hw67002_0)).trans hw67002_0),((HB.out.cell (World.block_lt_of_cell? w _ hw67002_1)).trans hw67002_1),((HB.out.cell (World.block_lt_of_cell? w _ hw67002_2)).trans hw67002_2)⟩ (fun hHeld=>?_);refine with_tabW laws_eqRegexSG.tab6 laws_eqRegexSG.bits6 (fun HT_ HW_=>?_)
     generalize wr.drew=w9 at HB HR67001_2 HR67002_2 hx67001_0 hx67001_1 hx67001_2 hx67002_0 hx67002_1 hx67002_2 hHeld ⊢
     refine zy 0 (some 17) HT_.out ?_
     refine zy 1 (some 18) HT_.out ?_
     refine zy 2 (some 19) HT_.out ?_
     refine zy 4 (some 21) HT_.out ?_
     refine zy 5 (some 22) HT_.out ?_
     refine zy 6 (some 23) HT_.out ?_
     refine ztk 3 (some 20) HT_.out HW_.out hHeld ?_
     refine ztk 7 (some 24) HT_.out HW_.out hHeld ?_
     refine zon 8 (some 25) HT_.out (fun K hK=>?_)
     refine goes_ Try.func54 (by kernel_rfl) rfl #[.agg #[.int .i64 ((rd_T43 l0 x5_1).f0),.string ((rd_T43 l0 x5_1).f1),.slice A67001_2 ((rd_T43 l0 x5_1).f2).length c67001_2],.agg #[.int .i64 ((rd_T43 l1 x5_1).f0),.string ((rd_T43 l1 x5_1).f1),.slice A67002_2 ((rd_T43 l1 x5_1).f2).length c67002_2]] (by rfl) rfl rfl za6 ?_
     with_reducible refine (gC k1 ((rd_T43 l0 x5_1).f0) ((rd_T43 l0 x5_1).f1) _ _ ((rd_T43 l0 x5_1).f2) ((rd_T43 l1 x5_1).f0) ((rd_T43 l1 x5_1).f1) _ _ ((rd_T43 l1 x5_1).f2) true _ ?side1 ?side2 ?side3 ?side4 A7.out).mono ?_
     (case side1=>repeat (first|exact (Kd.C_below HR67001_2.out HB.out)|(with_reducible refine Kd.C_alloc ?_ _)|(with_reducible refine Kd.C_drewN ?_ _)|(with_reducible refine Kd.C_drew ?_)))
     (case side2=>exact HC67001_2.out)
     (case side3=>repeat (first|exact (Kd.C_below HR67002_2.out HB.out)|(with_reducible refine Kd.C_alloc ?_ _)|(with_reducible refine Kd.C_drewN ?_ _)|(with_reducible refine Kd.C_drew ?_)))
     (case side4=>exact HC67002_2.out)
     rintro e w10 ⟨rfl,hb⟩
     refine ⟨_,rfl,?_⟩
     replace HB:=yB HB hb
     (try clear hb)
     (try clear hb2)
     (try clear hk)
     (try clear hi)
     refine hK.out _ _ ⟨((HB.out.cell (World.block_lt_of_cell? w _ hw67001_0)).trans hw67001_0),((HB.out.cell (World.block_lt_of_cell? w _ hw67001_1)).trans hw67001_1),((HB.out.cell (World.block_lt_of_cell? w _ hw67001_2)).trans hw67001_2),((HB.out.cell (World.block_lt_of_cell? w _ hw67002_0)).trans hw67002_0),((HB.out.cell (World.block_lt_of_cell? w _ hw67002_1)).trans hw67002_1),((HB.out.cell (World.block_lt_of_cell? w _ hw67002_2)).trans hw67002_2)⟩ (fun hHeld=>?_)
     clear hK K
     refine zno (some 25) ?_
     refine zy 9 (some 26) HT_.out ?_
     refine done_ (done_of HT_.out (by kernel_rfl)) ?_
     try go_wp2
     go_roundg k1
     case measure=>have:=HK1.out;omega
     case rel=>exact ⟨(wrap64 (x5_1+1)),za9,H',⟨za11⟩,⟨za5⟩⟩
    ·replace c8:=Bool.eq_false_iff.mpr c8
     subst c8
     rw [if_neg zff] at H
     try dsimp only at H
     obtain rfl:=zi H
     try go_wp2
     replace HB:=zk (below_drew1 HB.out)
     have p67001:0≤(x5_1:Int):=of_decide_eq_true za7
     have q67001:x5_1 < (l0.length:Int):=of_decide_eq_true za7
     obtain ⟨ad67001,A67001_2,c67001_2,e67001,hx67001_0,hx67001_1,hx67001_2,hl67001_2,hi67001_2⟩:=at_T43 HR0.out x5_1 p67001 q67001
     have hw67001_2:=hx67001_2
     have hw67001_1:=hx67001_1
     have hw67001_0:=hx67001_0
     cases e67001
     replace hx67001_0:=zx HB.out hx67001_0
     replace hx67001_1:=zx HB.out hx67001_1
     replace hx67001_2:=zx HB.out hx67001_2
     have HR67001_2:=zk hi67001_2
     have HC67001_2:=zk hl67001_2
     clear hi67001_2 hl67001_2
     replace p67001:=eq_true p67001
     replace q67001:=eq_true q67001
     have p67002:0≤(x5_1:Int):=of_decide_eq_true za7
     have q67002:x5_1 < (l1.length:Int):=of_decide_eq_true za7
     obtain ⟨ad67002,A67002_2,c67002_2,e67002,hx67002_0,hx67002_1,hx67002_2,hl67002_2,hi67002_2⟩:=at_T43 HR1.out x5_1 p67002 q67002
     have hw67002_2:=hx67002_2
     have hw67002_1:=hx67002_1
     have hw67002_0:=hx67002_0
     cases e67002
     replace hx67002_0:=zx HB.out hx67002_0
     replace hx67002_1:=zx HB.out hx67002_1
     replace hx67002_2:=zx HB.out hx67002_2
     have HR67002_2:=zk hi67002_2
     have HC67002_2:=zk hl67002_2
     clear hi67002_2 hl67002_2
     replace p67002:=eq_true p67002
     replace q67002:=eq_true q67002
     refine start_ (n:=10) (S:=fun w'=>w'.cell? (ad67001.add ((x5_1).toNat * 3))=some (.int .i64 ((rd_T43 l0 x5_1).f0))∧w'.cell? ⟨(ad67001.add ((x5_1).toNat * 3)).block,(ad67001.add ((x5_1).toNat * 3)).off+1,none⟩=some (.string ((rd_T43 l0 x5_1).f1))∧w'.cell? ⟨(ad67001.add ((x5_1).toNat * 3)).block,(ad67001.add ((x5_1).toNat * 3)).off+2,none⟩=some (.slice A67001_2 ((rd_T43 l0 x5_1).f2).length c67001_2)∧w'.cell? (ad67002.add ((x5_1).toNat * 3))=some (.int .i64 ((rd_T43 l1 x5_1).f0))∧w'.cell? ⟨(ad67002.add ((x5_1).toNat * 3)).block,(ad67002.add ((x5_1).toNat * 3)).off+1,none⟩=some (.string ((rd_T43 l1 x5_1).f1))∧w'.cell? ⟨(ad67002.add ((x5_1).toNat * 3)).block,(ad67002.add ((x5_1).toNat * 3)).off+2,none⟩=some (.slice A67002_2 ((rd_T43 l1 x5_1).f2).length c67002_2)) (ds:=[]) #[false,false,false,false,false,false,false,false,false,false] (by kernel_rfl) rfl rfl ⟨((HB.out.cell (World.block_lt_of_cell? w _ hw67001_0)).trans hw67001_0),((HB.out.cell (World.block_lt_of_cell? w _ hw67001_1)).trans hw67001_1),((HB.out.cell (World.block_lt_of_cell? w _ hw67001_2)).trans hw67001_2),((HB.out.cell (World.block_lt_of_cell? w _ hw67002_0)).trans hw67002_0),((HB.out.cell (World.block_lt_of_cell? w _ hw67002_1)).trans hw67002_1),((HB.out.cell (World.block_lt_of_cell? w _ hw67002_2)).trans hw67002_2)⟩ (fun hHeld=>?_);refine with_tabW laws_eqRegexSG.tab6 laws_eqRegexSG.bits6 (fun HT_ HW_=>?_)
     generalize wr.drew=w11 at HB HR67001_2 HR67002_2 hx67001_0 hx67001_1 hx67001_2 hx67002_0 hx67002_1 hx67002_2 hHeld ⊢
     refine zy 0 (some 17) HT_.out ?_
     refine zy 1 (some 18) HT_.out ?_
     refine zy 2 (some 19) HT_.out ?_
     refine zy 4 (some 21) HT_.out ?_
     refine zy 5 (some 22) HT_.out ?_
     refine zy 6 (some 23) HT_.out ?_
     refine ztk 3 (some 20) HT_.out HW_.out hHeld ?_
     refine ztk 7 (some 24) HT_.out HW_.out hHeld ?_
     refine zon 8 (some 25) HT_.out (fun K hK=>?_)
     refine goes_ Try.func54 (by kernel_rfl) rfl #[.agg #[.int .i64 ((rd_T43 l0 x5_1).f0),.string ((rd_T43 l0 x5_1).f1),.slice A67001_2 ((rd_T43 l0 x5_1).f2).length c67001_2],.agg #[.int .i64 ((rd_T43 l1 x5_1).f0),.string ((rd_T43 l1 x5_1).f1),.slice A67002_2 ((rd_T43 l1 x5_1).f2).length c67002_2]] (by rfl) rfl rfl za6 ?_
     with_reducible refine (gC k1 ((rd_T43 l0 x5_1).f0) ((rd_T43 l0 x5_1).f1) _ _ ((rd_T43 l0 x5_1).f2) ((rd_T43 l1 x5_1).f0) ((rd_T43 l1 x5_1).f1) _ _ ((rd_T43 l1 x5_1).f2) false _ ?side1 ?side2 ?side3 ?side4 A7.out).mono ?_
     (case side1=>repeat (first|exact (Kd.C_below HR67001_2.out HB.out)|(with_reducible refine Kd.C_alloc ?_ _)|(with_reducible refine Kd.C_drewN ?_ _)|(with_reducible refine Kd.C_drew ?_)))
     (case side2=>exact HC67001_2.out)
     (case side3=>repeat (first|exact (Kd.C_below HR67002_2.out HB.out)|(with_reducible refine Kd.C_alloc ?_ _)|(with_reducible refine Kd.C_drewN ?_ _)|(with_reducible refine Kd.C_drew ?_)))
     (case side4=>exact HC67002_2.out)
     rintro e w12 ⟨rfl,hb⟩
     refine ⟨_,rfl,?_⟩
     replace HB:=yB HB hb
     (try clear hb)
     (try clear hb2)
     (try clear hk)
     (try clear hi)
     refine hK.out _ _ ⟨((HB.out.cell (World.block_lt_of_cell? w _ hw67001_0)).trans hw67001_0),((HB.out.cell (World.block_lt_of_cell? w _ hw67001_1)).trans hw67001_1),((HB.out.cell (World.block_lt_of_cell? w _ hw67001_2)).trans hw67001_2),((HB.out.cell (World.block_lt_of_cell? w _ hw67002_0)).trans hw67002_0),((HB.out.cell (World.block_lt_of_cell? w _ hw67002_1)).trans hw67002_1),((HB.out.cell (World.block_lt_of_cell? w _ hw67002_2)).trans hw67002_2)⟩ (fun hHeld=>?_)
     clear hK K
     refine zno (some 25) ?_
     refine zy 9 (some 26) HT_.out ?_
     refine done_ (done_of HT_.out (by kernel_rfl)) ?_
     try go_wp2
     go_ret
     exact ⟨za8,za5⟩
    ·rw [if_neg c6] at H
     exact absurd H (by simp)
    ·rw [if_neg c5] at H
     exact absurd H (by simp)
    ·rw [if_neg c4] at H
     have c4b0:=zdnl c4
     clear c4
     obtain rfl:=zi H
     go_wp2
     go_ret
     exact ⟨za8,za5⟩
 ·rw [if_neg c3] at H
  have c3b0:=zbn c3
  have c3b1:=zqt c3
  have c3b2:(l0.length == l1.length)=false:=by first|simpa using c3|(simp at c3 ⊢;omega)
  obtain rfl:=zi H
  go_enter Try.func67,Try.ntmps67
  go_wp2
  go_ret
  exact ⟨za8,za5⟩
def laws_eqRegexG.f (gF:Nat→Int→ByteArray→List (S43)→Int→ByteArray→List (S43)→Option (Bool)) (k:Nat) (a0_0:Int) (a0_1:ByteArray) (l0_2:List (S43)) (a1_0:Int) (a1_1:ByteArray) (l1_2:List (S43)):Option (Bool):=if a0_0=a1_0 then (if a0_1.toList=a1_1.toList then ((laws_eqRegexSG.f gF k l0_2 l1_2).bind fun t54003=>(if t54003=true then (some true) else (some false))) else (some false)) else (some false)
theorem laws_eqRegexG.calls (gF:Nat→Int→ByteArray→List (S43)→Int→ByteArray→List (S43)→Option (Bool)) (gC:∀ (k:Nat) (a0_0:Int) (a0_1:ByteArray) (A0_2:Option Addr) (c0_2:Nat) (l0_2:List (S43)) (a1_0:Int) (a1_1:ByteArray) (A1_2:Option Addr) (c1_2:Nat) (l1_2:List (S43)) (r:Bool) (w:World) (hr0_2:Kd.C k43 w A0_2 l0_2.length l0_2) (hc0_2:l0_2.length≤c0_2) (hr1_2:Kd.C k43 w A1_2 l1_2.length l1_2) (hc1_2:l1_2.length≤c1_2) (h:gF k a0_0 a0_1 l0_2 a1_0 a1_1 l1_2=some r),Calls Try.prog 54 #[.agg #[.int .i64 a0_0,.string a0_1,.slice A0_2 l0_2.length c0_2],.agg #[.int .i64 a1_0,.string a1_1,.slice A1_2 l1_2.length c1_2]] w fun e w'=>e = .returned (.bool r)∧Below w.heap.size w w') (k:Nat) (a0_0:Int) (a0_1:ByteArray) (A0_2:Option Addr) (c0_2:Nat) (l0_2:List (S43)) (a1_0:Int) (a1_1:ByteArray) (A1_2:Option Addr) (c1_2:Nat) (l1_2:List (S43)) (r:Bool) (w:World) (hr0_2:Kd.C k43 w A0_2 l0_2.length l0_2) (hc0_2:l0_2.length≤c0_2) (hr1_2:Kd.C k43 w A1_2 l1_2.length l1_2) (hc1_2:l1_2.length≤c1_2) (h:laws_eqRegexG.f gF k a0_0 a0_1 l0_2 a1_0 a1_1 l1_2=some r) :
   Calls Try.prog 54 #[.agg #[.int .i64 a0_0,.string a0_1,.slice A0_2 l0_2.length c0_2],.agg #[.int .i64 a1_0,.string a1_1,.slice A1_2 l1_2.length c1_2]] w fun e w'=>e = .returned (.bool r)∧Below w.heap.size w w':=by
 have hu43:=Try.underlying43
 have HR0_2:=zk hr0_2
 have HC0_2:=zk hc0_2
 clear hr0_2 hc0_2
 have HR1_2:=zk hr1_2
 have HC1_2:=zk hc1_2
 clear hr1_2 hc1_2
 have HB:=zk (Below.refl w.heap.size w)
 have H:=h
 unfold laws_eqRegexG.f at H
 clear h
 by_cases c3:a0_0=a1_0
 rw [if_pos c3] at H
 have c3b0:=zbt c3
 have c3b1:=zqn c3
 clear c3
 by_cases c4:a0_1.toList=a1_1.toList
 rw [if_pos c4] at H
 have c4b0:=zbt c4
 have c4b1:=zqn c4
 clear c4
 obtain ⟨t3,A5,H⟩:=zO H
 try dsimp only at H
 by_cases c6:t3=true
 subst c6
 rw [if_pos rfl] at H
 try dsimp only at H
 rotate_left
 replace c6:=Bool.eq_false_iff.mpr c6
 subst c6
 rw [if_neg zff] at H
 try dsimp only at H
 rotate_left
 rw [if_neg c4] at H
 have c4b0:=zbn c4
 have c4b1:=zqt c4
 rotate_left
 rw [if_neg c3] at H
 have c3b0:=zbn c3
 have c3b1:=zqt c3
 rotate_left
 all_goals
  obtain rfl:=zi H
  go_enter Try.func54,Try.ntmps54
  go_wp2_with (first|((with_reducible refine gate_dst (N:=2) rfl ?_);refine zE (cs:=#[.int .i64 a0_0,.string a0_1,.slice A0_2 l0_2.length c0_2]) (t:=43) ?_;intro gb1 hg w13 hbox hb;have BK1:=zk hbox;have GW1:=zk (zs (w:=w) hg za5);have GE1:=GW1;replace HB:=yB HB hb;clear hb hbox hg)|((with_reducible refine gate_dst (N:=3) rfl ?_);refine zE (cs:=#[.int .i64 a1_0,.string a1_1,.slice A1_2 l1_2.length c1_2]) (t:=43) ?_;intro gb2 hg w14 hbox hb;have BK2:=zk hbox;have GW2:=zk (zs (w:=w) hg za5);have GE2:=GW2;have NB1_2:=yn hg BK1;have NB2_1:=yp hg BK1;replace BK1:=yb BK1 hb;replace HB:=yB HB hb;clear hb hbox hg;have hnb15:=NB1_2.out;have hnc15:=NB2_1.out;obtain ⟨hcz16_0,hcz16_1,hcz16_2,hfz16_0,hfz16_1,hfz16_2⟩:=blk3 BK1.out;obtain ⟨hcz17_0,hcz17_1,hcz17_2,hfz17_0,hfz17_1,hfz17_2⟩:=blk3 BK2.out)|((with_reducible refine gate_callee (f:=67) rfl ?_);refine zg (some 19) Try.func67 #[.slice A0_2 l0_2.length c0_2,.slice A1_2 l1_2.length c1_2] rfl za6 ?_;(with_reducible refine (laws_eqRegexSG.calls gF gC k _ _ l0_2 _ _ l1_2 _ _ ?side1 ?side2 ?side3 ?side4 A5.out).mono ?_);(case side1=>repeat (first|exact (Kd.C_below HR0_2.out HB.out)|(with_reducible refine Kd.C_alloc ?_ _)|(with_reducible refine Kd.C_drewN ?_ _)|(with_reducible refine Kd.C_drew ?_)));(case side2=>exact HC0_2.out);(case side3=>repeat (first|exact (Kd.C_below HR1_2.out HB.out)|(with_reducible refine Kd.C_alloc ?_ _)|(with_reducible refine Kd.C_drewN ?_ _)|(with_reducible refine Kd.C_drew ?_)));(case side4=>exact HC1_2.out);rintro e w18 ⟨rfl,hb⟩;refine ⟨_,rfl,?_⟩;replace BK1:=yb BK1 hb;replace BK2:=yb BK2 hb;replace HB:=yB HB hb;(try clear hb)))
  go_ret
  exact ⟨za8,za5⟩
def laws_eqRegex.f:Nat→Int→ByteArray→List (S43)→Int→ByteArray→List (S43)→Option (Bool)
 | 0,_,_,_,_,_,_=>none
 | K+1,a0_,a1_,a2_,a3_,a4_,a5_=>laws_eqRegexG.f (fun _=>laws_eqRegex.f K) K a0_ a1_ a2_ a3_ a4_ a5_
theorem laws_eqRegex.calls (k:Nat) (a0_0:Int) (a0_1:ByteArray) (A0_2:Option Addr) (c0_2:Nat) (l0_2:List (S43)) (a1_0:Int) (a1_1:ByteArray) (A1_2:Option Addr) (c1_2:Nat) (l1_2:List (S43)) (r:Bool) (w:World) (hr0_2:Kd.C k43 w A0_2 l0_2.length l0_2) (hc0_2:l0_2.length≤c0_2) (hr1_2:Kd.C k43 w A1_2 l1_2.length l1_2) (hc1_2:l1_2.length≤c1_2) (h:laws_eqRegex.f k a0_0 a0_1 l0_2 a1_0 a1_1 l1_2=some r) :
  Calls Try.prog 54 #[.agg #[.int .i64 a0_0,.string a0_1,.slice A0_2 l0_2.length c0_2],.agg #[.int .i64 a1_0,.string a1_1,.slice A1_2 l1_2.length c1_2]] w fun e w'=>e = .returned (.bool r)∧Below w.heap.size w w':=by
 induction k generalizing a0_0 a0_1 A0_2 c0_2 l0_2 a1_0 a1_1 A1_2 c1_2 l1_2 r w hr0_2 hc0_2 hr1_2 hc1_2 with
 | zero=>exact absurd h (by simp [laws_eqRegex.f])
 | succ K ih=>exact laws_eqRegexG.calls (fun _=>laws_eqRegex.f K) (fun k a0_0 a0_1 A0_2 c0_2 l0_2 a1_0 a1_1 A1_2 c1_2 l1_2 r w hr0_2 hc0_2 hr1_2 hc1_2 h=>ih a0_0 a0_1 A0_2 c0_2 l0_2 a1_0 a1_1 A1_2 c1_2 l1_2 r w hr0_2 hc0_2 hr1_2 hc1_2 h) K a0_0 a0_1 A0_2 c0_2 l0_2 a1_0 a1_1 A1_2 c1_2 l1_2 r w hr0_2 hc0_2 hr1_2 hc1_2 h
def laws_szConstraint.f (k:Nat) (a0_0:Int) (a0_1:ByteArray) (a0_2:ByteArray) (a0_3:Int) (a0_4:ByteArray) (l0_5:List (S52)) (l0_6:List Int) (a0_7:Int) (a1:Int):Option (Int):=if (wrap64 (a1 - (a0_1.size:Int))) < 0 then (some (-1)) else (if (wrap64 ((wrap64 (a1 - (a0_1.size:Int))) - (a0_2.size:Int))) < 0 then (some (-1)) else ((laws_szRegex.f k a0_3 a0_4 l0_5 (wrap64 ((wrap64 (a1 - (a0_1.size:Int))) - (a0_2.size:Int)))).bind fun t23002=>(if t23002 < 0 then (some (-1)) else ((laws_szIntS.f l0_6 t23002).bind fun t23003=>(if t23003 < 0 then (some (-1)) else (some t23003))))))
theorem laws_szConstraint.calls (k:Nat) (a0_0:Int) (a0_1:ByteArray) (a0_2:ByteArray) (a0_3:Int) (a0_4:ByteArray) (A0_5:Option Addr) (c0_5:Nat) (l0_5:List (S52)) (A0_6:Option Addr) (c0_6:Nat) (l0_6:List Int) (a0_7:Int) (a1:Int) (r:Int) (w:World) (hr0_5:Kd.C k52 w A0_5 l0_5.length l0_5) (hc0_5:l0_5.length≤c0_5) (hr0_6:Kd.C (Kd.int .i64) w A0_6 l0_6.length l0_6) (hc0_6:l0_6.length≤c0_6) (h:laws_szConstraint.f k a0_0 a0_1 a0_2 a0_3 a0_4 l0_5 l0_6 a0_7 a1=some r) :
   Calls Try.prog 23 #[.agg #[.int .i64 a0_0,.string a0_1,.string a0_2,.int .i64 a0_3,.string a0_4,.slice A0_5 l0_5.length c0_5,.slice A0_6 l0_6.length c0_6,.int .i64 a0_7],.int .i64 a1] w fun e w'=>e = .returned (.int .i64 r)∧Below w.heap.size w w':=by
 have hu54:=Try.underlying54
 have hu52:=Try.underlying52
 have HR0_5:=zk hr0_5
 have HC0_5:=zk hc0_5
 clear hr0_5 hc0_5
 have HR0_6:=zk hr0_6
 have HC0_6:=zk hc0_6
 clear hr0_6 hc0_6
 have HB:=zk (Below.refl w.heap.size w)
 have H:=h
 unfold laws_szConstraint.f at H
 clear h
 by_cases c3:(wrap64 (a1 - (a0_1.size:Int))) < 0
 rw [if_pos c3] at H
 have c3b0:=zdl c3
 have c3w:decide ((IntKind.i64.wrap (a1 - (a0_1.size:Int))) < 0)=true:=by simp only [i64_w];exact c3b0
 clear c3
 rotate_left
 rw [if_neg c3] at H
 have c3b0:=zdnl c3
 have c3w:decide ((IntKind.i64.wrap (a1 - (a0_1.size:Int))) < 0)=false:=by simp only [i64_w];exact c3b0
 clear c3
 by_cases c6:(wrap64 ((wrap64 (a1 - (a0_1.size:Int))) - (a0_2.size:Int))) < 0
 rw [if_pos c6] at H
 have c6b0:=zdl c6
 have c6w:decide ((IntKind.i64.wrap ((IntKind.i64.wrap (a1 - (a0_1.size:Int))) - (a0_2.size:Int))) < 0)=true:=by simp only [i64_w];exact c6b0
 clear c6
 rotate_left
 rw [if_neg c6] at H
 have c6b0:=zdnl c6
 have c6w:decide ((IntKind.i64.wrap ((IntKind.i64.wrap (a1 - (a0_1.size:Int))) - (a0_2.size:Int))) < 0)=false:=by simp only [i64_w];exact c6b0
 clear c6
 obtain ⟨t2,A9,H⟩:=zO H
 try dsimp only at H
 by_cases c10:t2 < 0
 rw [if_pos c10] at H
 have c10b0:=zdl c10
 clear c10
 rotate_left
 rw [if_neg c10] at H
 have c10b0:=zdnl c10
 clear c10
 obtain ⟨t3,A14,H⟩:=zO H
 try dsimp only at H
 by_cases c15:t3 < 0
 rw [if_pos c15] at H
 have c15b0:=zdl c15
 clear c15
 rotate_left
 rw [if_neg c15] at H
 have c15b0:=zdnl c15
 clear c15
 rotate_left
 all_goals
  obtain rfl:=zi H
  go_enter Try.func23,Try.ntmps23
  go_wp2_with (first|((with_reducible refine gate_dst (N:=2) rfl ?_);refine zE (cs:=#[.int .i64 a0_0,.string a0_1,.string a0_2,.int .i64 a0_3,.string a0_4,.slice A0_5 l0_5.length c0_5,.slice A0_6 l0_6.length c0_6,.int .i64 a0_7]) (t:=54) ?_;intro gb1 hg w16 hbox hb;have BK1:=zk hbox;have GW1:=zk (zs (w:=w) hg za5);have GE1:=GW1;replace HB:=yB HB hb;clear hb hbox hg;obtain ⟨hcz17_0,hcz17_1,hcz17_2,hcz17_3,hcz17_4,hcz17_5,hcz17_6,hcz17_7,hfz17_0,hfz17_1,hfz17_2,hfz17_3,hfz17_4,hfz17_5,hfz17_6,hfz17_7⟩:=blk8 BK1.out)|((with_reducible refine gate_callee (f:=37) rfl ?_);refine zg (some 22) Try.func37 #[.agg #[.int .i64 a0_3,.string a0_4,.slice A0_5 l0_5.length c0_5],.int .i64 (wrap64 ((wrap64 (a1 - (a0_1.size:Int))) - (a0_2.size:Int)))] rfl za6 ?_;(with_reducible refine (laws_szRegex.calls k a0_3 a0_4 _ _ l0_5 (wrap64 ((wrap64 (a1 - (a0_1.size:Int))) - (a0_2.size:Int))) t2 _ ?side1 ?side2 A9.out).mono ?_);(case side1=>repeat (first|exact (Kd.C_below HR0_5.out HB.out)|(with_reducible refine Kd.C_alloc ?_ _)|(with_reducible refine Kd.C_drewN ?_ _)|(with_reducible refine Kd.C_drew ?_)));(case side2=>exact HC0_5.out);rintro e w18 ⟨rfl,hb⟩;refine ⟨_,rfl,?_⟩;replace BK1:=yb BK1 hb;replace HB:=yB HB hb;(try clear hb);obtain ⟨hcz19_0,hcz19_1,hcz19_2,hcz19_3,hcz19_4,hcz19_5,hcz19_6,hcz19_7,hfz19_0,hfz19_1,hfz19_2,hfz19_3,hfz19_4,hfz19_5,hfz19_6,hfz19_7⟩:=blk8 BK1.out)|((with_reducible refine gate_callee (f:=38) rfl ?_);refine zg (some 28) Try.func38 #[.slice A0_6 l0_6.length c0_6,.int .i64 t2] rfl za6 ?_;(with_reducible refine (laws_szIntS.calls _ _ l0_6 t2 t3 _ ?side1 ?side2 A14.out).mono ?_);(case side1=>repeat (first|exact (Kd.C_below HR0_6.out HB.out)|(with_reducible refine Kd.C_alloc ?_ _)|(with_reducible refine Kd.C_drewN ?_ _)|(with_reducible refine Kd.C_drew ?_)));(case side2=>exact HC0_6.out);rintro e w' ⟨rfl,⟨nd,rfl⟩⟩;refine ⟨_,rfl,?_⟩))
  go_ret
  exact ⟨za8,za5⟩
def laws_szConstraintS.l0:Nat→List (S54)→Int→Int→Option (Int)
 | 0,_,_,_=>none
 | k+1,x0,x1,x5=>if x5 < (x0.length:Int) then (if 0≤x5 then ((laws_szConstraint.f k ((rd_T54 x0 x5).f0) ((rd_T54 x0 x5).f1) ((rd_T54 x0 x5).f2) ((rd_T54 x0 x5).f3.f0) ((rd_T54 x0 x5).f3.f1) ((rd_T54 x0 x5).f3.f2) ((rd_T54 x0 x5).f4) ((rd_T54 x0 x5).f5) x1).bind fun t11002=>(if t11002 < 0 then (some (-1)) else (laws_szConstraintS.l0 k x0 t11002 (wrap64 (x5+1))))) else (none)) else (some x1)
def laws_szConstraintS.f (k:Nat) (l0:List (S54)) (a1:Int):Option (Int):=if (wrap64 (a1 - (l0.length:Int))) < 0 then (some (-1)) else (laws_szConstraintS.l0 k l0 (wrap64 (a1 - (l0.length:Int))) 0)
theorem laws_szConstraintS.calls (k:Nat) (A0:Option Addr) (c0:Nat) (l0:List (S54)) (a1:Int) (r:Int) (w:World) (hr0:Kd.C k54 w A0 l0.length l0) (hc0:l0.length≤c0) (h:laws_szConstraintS.f k l0 a1=some r) :
  Calls Try.prog 11 #[.slice A0 l0.length c0,.int .i64 a1] w fun e w'=>e = .returned (.int .i64 r)∧Below w.heap.size w w':=by
 have hu54:=Try.underlying54
 have HR0:=zk hr0
 have HC0:=zk hc0
 clear hr0 hc0
 have HB:=zk (Below.refl w.heap.size w)
 have H:=h
 unfold laws_szConstraintS.f at H
 clear h
 by_cases c3:(wrap64 (a1 - (l0.length:Int))) < 0
 ·rw [if_pos c3] at H
  have c3b0:=zdl c3
  have c3w:decide ((IntKind.i64.wrap (a1 - (l0.length:Int))) < 0)=true:=by simp only [i64_w];exact c3b0
  clear c3
  obtain rfl:=zi H
  go_enter Try.func11,Try.ntmps11
  go_wp2
  go_ret
  exact ⟨za8,za5⟩
 ·rw [if_neg c3] at H
  have c3b0:=zdnl c3
  have c3w:decide ((IntKind.i64.wrap (a1 - (l0.length:Int))) < 0)=false:=by simp only [i64_w];exact c3b0
  clear c3
  have H':=zk H
  clear H
  go_enter Try.func11,Try.ntmps11
  go_wp2
  try simp only [Act.put,zt,zv,zu]
  go_loopg [1,5] k (fun kq v1 v5 w'=>∃ (x1_1:Int) (x5_1:Int),v1 = .int .i64 x1_1∧v5 = .int .i64 x5_1∧Aside0 (laws_szConstraintS.l0 kq l0 x1_1 x5_1=some r)∧Aside0 (kq≤k)∧Aside0 (Below w.heap.size w w'))
  case atStart=>exact ⟨(wrap64 (a1 - (l0.length:Int))),(0),za9,za9,H',⟨Nat.le_refl _⟩,⟨za5⟩⟩
  case round =>
   clear H'
   try clear c3
   try clear c3b0
   obtain ⟨x1_1,x5_1,rfl,rfl,HA,HK1,HB⟩:=hrel
   cases gk with
   | zero=>exact absurd HA.out (by simp [laws_szConstraintS.l0])
   | succ k1 =>
    have H:=HA.out
    clear HA
    simp only [laws_szConstraintS.l0] at H
    by_cases c4:x5_1 < (l0.length:Int)
    rw [if_pos c4] at H
    have c4b0:=zdl c4
    clear c4
    by_cases c5:0≤x5_1
    rw [if_pos c5] at H
    have c5b0:=zdle c5
    clear c5
    obtain ⟨t2,A6,H⟩:=zO H
    try dsimp only at H
    by_cases c7:t2 < 0
    rw [if_pos c7] at H
    have c7b0:=zdl c7
    clear c7
    obtain rfl:=zi H
    have fin0_:=zk trivial
    rotate_left
    rw [if_neg c7] at H
    have c7b0:=zdnl c7
    clear c7
    have H':=zk H
    clear H
    have fin1_:=zk trivial
    rotate_left
    · rw [if_neg c5] at H
      exact absurd H (by simp)
    · rw [if_neg c4] at H
      have c4b0:=zdnl c4
      clear c4
      obtain rfl:=zi H
      go_wp2
      go_ret
      exact ⟨za8,za5⟩
    all_goals
     have p11001:0≤(x5_1:Int):=of_decide_eq_true za7
     have q11001:x5_1 < (l0.length:Int):=of_decide_eq_true za7
     obtain ⟨ad11001,A11001_5,c11001_5,A11001_6,c11001_6,e11001,hx11001_0,hx11001_1,hx11001_2,hx11001_3,hx11001_4,hx11001_5,hx11001_6,hx11001_7,hl11001_5,hi11001_5,hl11001_6,hi11001_6⟩:=at_T54 HR0.out x5_1 p11001 q11001
     cases e11001
     replace hx11001_0:=zx HB.out hx11001_0
     replace hx11001_1:=zx HB.out hx11001_1
     replace hx11001_2:=zx HB.out hx11001_2
     replace hx11001_3:=zx HB.out hx11001_3
     replace hx11001_4:=zx HB.out hx11001_4
     replace hx11001_5:=zx HB.out hx11001_5
     replace hx11001_6:=zx HB.out hx11001_6
     replace hx11001_7:=zx HB.out hx11001_7
     have HR11001_5:=zk hi11001_5
     have HC11001_5:=zk hl11001_5
     clear hi11001_5 hl11001_5
     have HR11001_6:=zk hi11001_6
     have HC11001_6:=zk hl11001_6
     clear hi11001_6 hl11001_6
     replace p11001:=eq_true p11001
     replace q11001:=eq_true q11001
     go_wp2_with (((with_reducible refine gate_callee (f:=23) rfl ?_);refine zg (some 23) Try.func23 #[.agg #[.int .i64 ((rd_T54 l0 x5_1).f0),.string ((rd_T54 l0 x5_1).f1),.string ((rd_T54 l0 x5_1).f2),.int .i64 ((rd_T54 l0 x5_1).f3.f0),.string ((rd_T54 l0 x5_1).f3.f1),.slice A11001_5 ((rd_T54 l0 x5_1).f3.f2).length c11001_5,.slice A11001_6 ((rd_T54 l0 x5_1).f4).length c11001_6,.int .i64 ((rd_T54 l0 x5_1).f5)],.int .i64 x1_1] rfl za6 ?_;(with_reducible refine (laws_szConstraint.calls k1 ((rd_T54 l0 x5_1).f0) ((rd_T54 l0 x5_1).f1) ((rd_T54 l0 x5_1).f2) ((rd_T54 l0 x5_1).f3.f0) ((rd_T54 l0 x5_1).f3.f1) _ _ ((rd_T54 l0 x5_1).f3.f2) _ _ ((rd_T54 l0 x5_1).f4) ((rd_T54 l0 x5_1).f5) x1_1 t2 _ ?side1 ?side2 ?side3 ?side4 A6.out).mono ?_);(case side1=>repeat (first|exact (Kd.C_below HR11001_5.out HB.out)|(with_reducible refine Kd.C_alloc ?_ _)|(with_reducible refine Kd.C_drewN ?_ _)|(with_reducible refine Kd.C_drew ?_)));(case side2=>exact HC11001_5.out);(case side3=>repeat (first|exact (Kd.C_below HR11001_6.out HB.out)|(with_reducible refine Kd.C_alloc ?_ _)|(with_reducible refine Kd.C_drewN ?_ _)|(with_reducible refine Kd.C_drew ?_)));(case side4=>exact HC11001_6.out);rintro e w8 ⟨rfl,hb⟩;refine ⟨_,rfl,?_⟩;replace HB:=yB HB hb;(try clear hb)))
     first
     | (
       clear fin0_
       go_ret
       exact ⟨za8,za5⟩)
     | (
       clear fin1_
       go_roundg k1
       case measure=>have:=HK1.out;omega
       case rel=>exact ⟨(t2),(wrap64 (x5_1+1)),za9,za9,H',⟨za11⟩,⟨za5⟩⟩)
def laws_toConstraint.f (k:Nat) (a0_0:Int) (a0_1:ByteArray) (a0_2:ByteArray) (a0_3:Int) (a0_4:ByteArray) (l0_5:List (S52)) (l0_6:List Int) (a0_7:Int):Option (Int × ByteArray × ByteArray × Int × ByteArray × (List (S43)) × List Int × Int):=(laws_toRegex.f k a0_3 a0_4 l0_5).bind fun bt26004=>((laws_toIntS.f k l0_6).bind fun t26009=>(some (a0_0,a0_1,a0_2,bt26004.1,bt26004.2.1,bt26004.2.2,t26009,a0_7)))
theorem laws_toConstraint.calls (k:Nat) (a0_0:Int) (a0_1:ByteArray) (a0_2:ByteArray) (a0_3:Int) (a0_4:ByteArray) (A0_5:Option Addr) (c0_5:Nat) (l0_5:List (S52)) (A0_6:Option Addr) (c0_6:Nat) (l0_6:List Int) (a0_7:Int) (r1:Int) (r2:ByteArray) (r3:ByteArray) (r4:Int) (r5:ByteArray) (r6:List (S43)) (r7:List Int) (r8:Int) (w:World) (hr0_5:Kd.C k52 w A0_5 l0_5.length l0_5) (hc0_5:l0_5.length≤c0_5) (hr0_6:Kd.C (Kd.int .i64) w A0_6 l0_6.length l0_6) (hc0_6:l0_6.length≤c0_6) (h:laws_toConstraint.f k a0_0 a0_1 a0_2 a0_3 a0_4 l0_5 l0_6 a0_7=some (r1,r2,r3,r4,r5,r6,r7,r8)) :
  Calls Try.prog 26 #[.agg #[.int .i64 a0_0,.string a0_1,.string a0_2,.int .i64 a0_3,.string a0_4,.slice A0_5 l0_5.length c0_5,.slice A0_6 l0_6.length c0_6,.int .i64 a0_7]] w fun e w'=>∃ v5_ v6_:Value,e = .returned (.agg #[.int .i64 r1,.string r2,.string r3,.int .i64 r4,.string r5,v5_,v6_,.int .i64 r8])∧Kd.R k43 43 w' w.heap.size (fun _=>True) v5_ r6∧Kd.R (Kd.int .i64) 3 w' w.heap.size (fun _=>True) v6_ r7∧Below w.heap.size w w':=by
 have hu54:=Try.underlying54
 have hu46:=Try.underlying46
 have hu52:=Try.underlying52
 have hu43:=Try.underlying43
 have HR0_5:=zk hr0_5
 have HC0_5:=zk hc0_5
 clear hr0_5 hc0_5
 have HR0_6:=zk hr0_6
 have HC0_6:=zk hc0_6
 clear hr0_6 hc0_6
 have HB:=zk (Below.refl w.heap.size w)
 have H:=h
 unfold laws_toConstraint.f at H
 clear h
 obtain ⟨⟨t4,t5,t6⟩,A2,H⟩:=zO H
 try dsimp only at H
 obtain ⟨t9,A3,H⟩:=zO H
 try dsimp only at H
 simp only [Option.some.injEq,Prod.mk.injEq] at H
 obtain ⟨rfl,rfl,rfl,rfl,rfl,rfl,rfl,rfl⟩:=H
 go_enter Try.func26,Try.ntmps26
 go_wp2_with (first|((with_reducible refine gate_dst (N:=1) rfl ?_);refine zE (cs:=#[.int .i64 a0_0,.string a0_1,.string a0_2,.int .i64 a0_3,.string a0_4,.slice A0_5 l0_5.length c0_5,.slice A0_6 l0_6.length c0_6,.int .i64 a0_7]) (t:=54) ?_;intro gb1 hg w4 hbox hb;have BK1:=zk hbox;have GW1:=zk (zs (w:=w) hg za5);have GE1:=GW1;replace HB:=yB HB hb;clear hb hbox hg)|((with_reducible refine gate_dst (N:=2) rfl ?_);refine zE (cs:=#[.int .i64 0,.string ⟨#[]⟩,.string ⟨#[]⟩,.int .i64 0,.string ⟨#[]⟩,.slice none 0 0,.slice none 0 0,.int .i64 0]) (t:=46) ?_;intro gb2 hg w5 hbox hb;have BK2:=zk hbox;have GW2:=zk (zs (w:=w) hg za5);have GE2:=GW2;have NB1_2:=yn hg BK1;have NB2_1:=yp hg BK1;replace BK1:=yb BK1 hb;replace HB:=yB HB hb;clear hb hbox hg)|((with_reducible refine gate_dst (N:=3) rfl ?_);refine zE (cs:=#[.int .i64 0,.string ⟨#[]⟩,.string ⟨#[]⟩,.int .i64 0,.string ⟨#[]⟩,.slice none 0 0,.slice none 0 0,.int .i64 0]) (t:=46) ?_;intro gb3 hg w6 hbox hb;have BK3:=zk hbox;have GW3:=zk (zs (w:=w) hg za5);have GE3:=GW3;have NB1_3:=yn hg BK1;have NB3_1:=yp hg BK1;have NB2_3:=yn hg BK2;have NB3_2:=yp hg BK2;replace BK1:=yb BK1 hb;replace BK2:=yb BK2 hb;replace HB:=yB HB hb;clear hb hbox hg;have hnb7:=NB1_2.out;have hnc7:=NB2_1.out;have hnb8:=NB1_3.out;have hnc8:=NB3_1.out;obtain ⟨hcz9_0,hcz9_1,hcz9_2,hcz9_3,hcz9_4,hcz9_5,hcz9_6,hcz9_7,hfz9_0,hfz9_1,hfz9_2,hfz9_3,hfz9_4,hfz9_5,hfz9_6,hfz9_7⟩:=blk8 BK1.out;have hnb10:=NB3_2.out;have hnc10:=NB2_3.out;obtain ⟨hcz11_0,hcz11_1,hcz11_2,hcz11_3,hcz11_4,hcz11_5,hcz11_6,hcz11_7,hfz11_0,hfz11_1,hfz11_2,hfz11_3,hfz11_4,hfz11_5,hfz11_6,hfz11_7⟩:=blk8 BK3.out)|((with_reducible refine gate_callee (f:=44) rfl ?_);refine zg (some 15) Try.func44 #[.agg #[.int .i64 a0_3,.string a0_4,.slice A0_5 l0_5.length c0_5]] rfl za6 ?_;(with_reducible refine (laws_toRegex.calls k a0_3 a0_4 _ _ l0_5 t4 t5 t6 _ ?side1 ?side2 A2.out).mono ?_);(case side1=>exact Kd.C_below HR0_5.out za5);(case side2=>exact HC0_5.out);rintro e w12 ⟨v7,rfl,ho0,hb⟩;refine ⟨_,rfl,?_⟩;have HO8:=zk (Kd.R_lower ho0 (below_size za5));replace BK1:=zk (blk_below (g:=gb1) (o:=.cells #[.int .i64 a0_0,.string a0_1,.string a0_2,.int .i64 a0_3,.string a0_4,.slice A0_5 l0_5.length c0_5,.slice A0_6 l0_6.length c0_6,.int .i64 a0_7] 54 (0,0)) (zpw BK1.out) hb);replace BK2:=zk (blk_below (g:=gb2) (o:=.cells #[.int .i64 0,.string ⟨#[]⟩,.string ⟨#[]⟩,.int .i64 0,.string ⟨#[]⟩,.slice none 0 0,.slice none 0 0,.int .i64 0] 46 (0,0)) (zpw BK2.out) hb);replace BK3:=zk (blk_below (g:=gb3) (o:=.cells #[.int .i64 a0_0,.string a0_1,.string a0_2,.int .i64 0,.string ⟨#[]⟩,.slice none 0 0,.slice none 0 0,.int .i64 0] 46 (0,0)) (zpu BK3.out) hb);replace HB:=yB HB hb;(try clear hb ho0);obtain ⟨hcz13_0,hcz13_1,hcz13_2,hcz13_3,hcz13_4,hcz13_5,hcz13_6,hcz13_7,hfz13_0,hfz13_1,hfz13_2,hfz13_3,hfz13_4,hfz13_5,hfz13_6,hfz13_7⟩:=blk8 BK3.out;obtain ⟨Ao14,co14,eo14⟩:=Kd.R_slice HO8.out;subst eo14;obtain ⟨hcz15_0,hcz15_1,hcz15_2,hcz15_3,hcz15_4,hcz15_5,hcz15_6,hcz15_7,hfz15_0,hfz15_1,hfz15_2,hfz15_3,hfz15_4,hfz15_5,hfz15_6,hfz15_7⟩:=blk8 BK1.out)|((with_reducible refine gate_callee (f:=45) rfl ?_);refine zg (some 19) Try.func45 #[.slice A0_6 l0_6.length c0_6] rfl za6 ?_;(with_reducible refine (laws_toIntS.calls k _ _ l0_6 t9 _ ?side1 ?side2 A3.out).mono ?_);(case side1=>exact Kd.C_below HR0_6.out za5);(case side2=>exact HC0_6.out);rintro e w16 ⟨v10,rfl,ho0,hb⟩;refine ⟨_,rfl,?_⟩;replace HO8:=zk (Kd.R_below (by (with_reducible repeat (first|apply Kd.R_alloc|apply Kd.R_drewN|apply Kd.R_drew));exact (Kd.R_mono (zfR (zfR (zfR (Kd.R_types HO8.out BK3.out (by decide))))) (fun _ h_=>h_.1))) hb);have HO11:=zk (Kd.R_lower ho0 (below_size za5));replace BK1:=zk (blk_below (g:=gb1) (o:=.cells #[.int .i64 a0_0,.string a0_1,.string a0_2,.int .i64 a0_3,.string a0_4,.slice A0_5 l0_5.length c0_5,.slice A0_6 l0_6.length c0_6,.int .i64 a0_7] 54 (0,0)) (zpw BK1.out) hb);replace BK2:=zk (blk_below (g:=gb2) (o:=.cells #[.int .i64 0,.string ⟨#[]⟩,.string ⟨#[]⟩,.int .i64 0,.string ⟨#[]⟩,.slice none 0 0,.slice none 0 0,.int .i64 0] 46 (0,0)) (zpw BK2.out) hb);replace BK3:=zk (blk_below (g:=gb3) (o:=.cells #[.int .i64 a0_0,.string a0_1,.string a0_2,.int .i64 t4,.string t5,.slice Ao14 t6.length co14,.slice none 0 0,.int .i64 0] 46 (0,0)) (zpu BK3.out) hb);replace HB:=yB HB hb;(try clear hb ho0);obtain ⟨Ao17,co17,eo17⟩:=Kd.R_slice HO11.out;subst eo17;obtain ⟨hcz18_0,hcz18_1,hcz18_2,hcz18_3,hcz18_4,hcz18_5,hcz18_6,hcz18_7,hfz18_0,hfz18_1,hfz18_2,hfz18_3,hfz18_4,hfz18_5,hfz18_6,hfz18_7⟩:=blk8 BK3.out;obtain ⟨hcz19_0,hcz19_1,hcz19_2,hcz19_3,hcz19_4,hcz19_5,hcz19_6,hcz19_7,hfz19_0,hfz19_1,hfz19_2,hfz19_3,hfz19_4,hfz19_5,hfz19_6,hfz19_7⟩:=blk8 BK1.out;obtain ⟨hcz20_0,hcz20_1,hcz20_2,hcz20_3,hcz20_4,hcz20_5,hcz20_6,hcz20_7,hfz20_0,hfz20_1,hfz20_2,hfz20_3,hfz20_4,hfz20_5,hfz20_6,hfz20_7⟩:=blk8 BK2.out))
 refine bodyPost_ret (results_cell_row rfl _ _ gb2 46 #[.int .i64 a0_0,.string a0_1,.string a0_2,.int .i64 t4,.string t5,.slice Ao14 t6.length co14,.slice Ao17 t9.length co17,.int .i64 a0_7] (0,0) _ rfl (zpw BK2.out) Try.underlying46 rfl (by kernel_rfl)) rfl ?_
 exact ⟨_,_,za8,by (with_reducible repeat (first|apply Kd.R_alloc|apply Kd.R_drewN|apply Kd.R_drew));exact Kd.R_mono (zfR (zfR (zfR (zfR (zfR (zfR (zfR (zfR (Kd.R_far (p:=⟨gb3,7,none⟩) (Kd.R_far (p:=⟨gb3,6,none⟩) (Kd.R_types (Kd.R_types HO8.out BK3.out (by decide)) BK2.out (by decide)) (fun _ hk=>hk.1.2) (.slice Ao17 t9.length co17)) (fun _ hk=>hk.1.2) (.int .i64 a0_7)))))))))) (fun _ hk=>trivial),by (with_reducible repeat (first|apply Kd.R_alloc|apply Kd.R_drewN|apply Kd.R_drew));exact Kd.R_mono (zfR (zfR (zfR (zfR (zfR (zfR (zfR (zfR (Kd.R_far (p:=⟨gb3,7,none⟩) (Kd.R_far (p:=⟨gb3,6,none⟩) (Kd.R_types (Kd.R_types HO11.out BK3.out (by decide)) BK2.out (by decide)) (fun _ hk=>hk.1.2) (.slice Ao17 t9.length co17)) (fun _ hk=>hk.1.2) (.int .i64 a0_7)))))))))) (fun _ hk=>trivial),za5⟩
def laws_toConstraintS.l0:Nat→List (S54)→List (S46)→Int→Option ((List (S46)))
 | 0,_,_,_=>none
 | k+1,x0,x3,x4=>if x4 < (x0.length:Int) then (if 0≤x4 then ((laws_toConstraint.f k ((rd_T54 x0 x4).f0) ((rd_T54 x0 x4).f1) ((rd_T54 x0 x4).f2) ((rd_T54 x0 x4).f3.f0) ((rd_T54 x0 x4).f3.f1) ((rd_T54 x0 x4).f3.f2) ((rd_T54 x0 x4).f4) ((rd_T54 x0 x4).f5)).bind fun bt15005=>(if x4 < (x3.length:Int) then (laws_toConstraintS.l0 k x0 (x3.set (x4:Int).toNat (⟨bt15005.1,bt15005.2.1,bt15005.2.2.1,(⟨bt15005.2.2.2.1,bt15005.2.2.2.2.1,bt15005.2.2.2.2.2.1⟩:S43),bt15005.2.2.2.2.2.2.1,bt15005.2.2.2.2.2.2.2⟩:S46)) (wrap64 (x4+1))) else (none))) else (none)) else (some x3)
def laws_toConstraintS.f (k:Nat) (l0:List (S54)):Option ((List (S46))):=if 0≤(l0.length:Int) then (if ((l0.length:Int):Int).toNat≤2345624805922 then (laws_toConstraintS.l0 k l0 (List.replicate ((l0.length:Int):Int).toNat z46) 0) else (none)) else (none)
theorem laws_toConstraintS.calls (k:Nat) (A0:Option Addr) (c0:Nat) (l0:List (S54)) (r:List (S46)) (w:World) (hr0:Kd.C k54 w A0 l0.length l0) (hc0:l0.length≤c0) (h:laws_toConstraintS.f k l0=some r) :
  Calls Try.prog 15 #[.slice A0 l0.length c0] w fun e w'=>∃ v0_:Value,e = .returned (v0_)∧Kd.R k46 46 w' w.heap.size (fun _=>True) v0_ r∧Below w.heap.size w w':=by
 have hu54:=Try.underlying54
 have hu46:=Try.underlying46
 have HR0:=zk hr0
 have HC0:=zk hc0
 clear hr0 hc0
 have HB:=zk (Below.refl w.heap.size w)
 have H:=h
 unfold laws_toConstraintS.f at H
 clear h
 by_cases c2:0≤(l0.length:Int)
 rw [if_pos c2] at H
 have c2b0:=eq_true c2
 have c2b1:=zdle c2
 clear c2
 by_cases c3:((l0.length:Int):Int).toNat≤2345624805922
 ·rw [if_pos c3] at H
  have c3b0:=eq_true c3
  have c3b1:=zdle c3
  clear c3
  obtain ⟨y15001,hy15001⟩:∃ y_:List (S46),y_=(List.replicate ((l0.length:Int):Int).toNat z46):=⟨_,rfl⟩
  replace H:(laws_toConstraintS.l0 k l0 y15001 0)=some r:=by first|(rw [hy15001];with_reducible exact H)|(have H2_:=(Option.bind_some _ _).symm.trans H;rw [hy15001];with_reducible exact H2_)|(have H2_:=(Option.bind_some _ _).symm.trans H;with_reducible exact H2_)|with_reducible exact H|(rw [hy15001];exact H)|exact H
  have Ny1:=zk hy15001
  clear hy15001
  have H':=zk H
  clear H
  go_enter Try.func15,Try.ntmps15
  go_wp2_with (first|((with_reducible refine gate_dst (N:=7) rfl ?_);refine Kd.R_make k46 _ 46 rfl (N:=7) rfl 26 _ _ rfl (l0.length:Int) rfl rfl Try.underlying26 (.agg #[(.int .i64 0),(.string ⟨#[]⟩),(.string ⟨#[]⟩),(.int .i64 0),(.string ⟨#[]⟩),(.slice none 0 0),(.slice none 0 0),(.int .i64 0)]) 120 info46 rfl (by decide) (by omega) z46 (ok:=fun _=>True) (okp:=fun _=>True) (k46_mkM _ _ _ z46 (Kd.R_nil _ _ _ _ _) (Kd.R_nil _ _ _ _ _)) (fun _ hk=>hk) trivial (of_decide_eq_true za7) (Nat.le_trans (Nat.mul_le_mul_right _ (of_decide_eq_true za7:(l0.length:Int).toNat≤2345624805922)) (by omega)) (Below.refl _ _) (Nat.le_refl _) ?_;intro v2 w4 ho5 hb hg_ hnew_;clear hg_ hnew_;(first|rw [← Ny1.out] at ho5|(simp only [Int.reduceToNat] at ho5;rw [← Ny1.out] at ho5));have HO3:=zk (Kd.R_lower ho5 (below_size za5));replace HB:=yB HB hb;clear hb ho5))
  try simp only [Act.put,zt,zv,zu]
  go_loopg [4] k (fun kq v4 w'=>∃ (x3_1:List (S46)) (x4_1:Int),v4 = .int .i64 x4_1∧Aside0 (laws_toConstraintS.l0 kq l0 x3_1 x4_1=some r)∧Aside0 (kq≤k)∧Aside0 (Kd.R k46 46 w' w.heap.size (fun _=>True) v2 x3_1)∧Aside0 (Below w.heap.size w w'))
  case atStart=>exact ⟨(y15001),(0),za9,H',⟨Nat.le_refl _⟩,⟨za2 HO3.out⟩,⟨za5⟩⟩
  case round =>
   clear H'
   try clear c3
   try clear c3b0
   try clear c3b1
   obtain ⟨x3_1,x4_1,rfl,HA,HK1,HO_3,HB⟩:=hrel
   cases gk with
   | zero=>exact absurd HA.out (by simp [laws_toConstraintS.l0])
   | succ k1 =>
    have H:=HA.out
    clear HA
    simp only [laws_toConstraintS.l0] at H
    by_cases c6:x4_1 < (l0.length:Int)
    rw [if_pos c6] at H
    have c6b0:=zdl c6
    clear c6
    by_cases c7:0≤x4_1
    rw [if_pos c7] at H
    have c7b0:=zdle c7
    clear c7
    obtain ⟨⟨t5,t6,t7,t8,t9,t10,t13,t16⟩,A8,H⟩:=zO H
    try dsimp only at H
    by_cases c9:x4_1 < (x3_1.length:Int)
    ·rw [if_pos c9] at H
     have c9b0:=zdl c9
     clear c9
     obtain ⟨y15017,hy15017⟩:∃ y_:List (S46),y_=(x3_1.set (x4_1:Int).toNat (⟨t5,t6,t7,(⟨t8,t9,t10⟩:S43),t13,t16⟩:S46)):=⟨_,rfl⟩
     replace H:(laws_toConstraintS.l0 k1 l0 y15017 (wrap64 (x4_1+1)))=some r:=by first|(rw [hy15017];with_reducible exact H)|(have H2_:=(Option.bind_some _ _).symm.trans H;rw [hy15017];with_reducible exact H2_)|(have H2_:=(Option.bind_some _ _).symm.trans H;with_reducible exact H2_)|with_reducible exact H|(rw [hy15017];exact H)|exact H
     have Ny17:=zk hy15017
     clear hy15017
     have H':=zk H
     clear H
     have p15004:0≤(x4_1:Int):=of_decide_eq_true za7
     have q15004:x4_1 < (l0.length:Int):=of_decide_eq_true za7
     obtain ⟨ad15004,A15004_5,c15004_5,A15004_6,c15004_6,e15004,hx15004_0,hx15004_1,hx15004_2,hx15004_3,hx15004_4,hx15004_5,hx15004_6,hx15004_7,hl15004_5,hi15004_5,hl15004_6,hi15004_6⟩:=at_T54 HR0.out x4_1 p15004 q15004
     cases e15004
     replace hx15004_0:=zx HB.out hx15004_0
     replace hx15004_1:=zx HB.out hx15004_1
     replace hx15004_2:=zx HB.out hx15004_2
     replace hx15004_3:=zx HB.out hx15004_3
     replace hx15004_4:=zx HB.out hx15004_4
     replace hx15004_5:=zx HB.out hx15004_5
     replace hx15004_6:=zx HB.out hx15004_6
     replace hx15004_7:=zx HB.out hx15004_7
     have HR15004_5:=zk hi15004_5
     have HC15004_5:=zk hl15004_5
     clear hi15004_5 hl15004_5
     have HR15004_6:=zk hi15004_6
     have HC15004_6:=zk hl15004_6
     clear hi15004_6 hl15004_6
     replace p15004:=eq_true p15004
     replace q15004:=eq_true q15004
     go_wp2_with (first|((with_reducible refine gate_callee (f:=26) rfl ?_);refine zg (some 20) Try.func26 #[.agg #[.int .i64 ((rd_T54 l0 x4_1).f0),.string ((rd_T54 l0 x4_1).f1),.string ((rd_T54 l0 x4_1).f2),.int .i64 ((rd_T54 l0 x4_1).f3.f0),.string ((rd_T54 l0 x4_1).f3.f1),.slice A15004_5 ((rd_T54 l0 x4_1).f3.f2).length c15004_5,.slice A15004_6 ((rd_T54 l0 x4_1).f4).length c15004_6,.int .i64 ((rd_T54 l0 x4_1).f5)]] rfl za6 ?_;(with_reducible refine (laws_toConstraint.calls k1 ((rd_T54 l0 x4_1).f0) ((rd_T54 l0 x4_1).f1) ((rd_T54 l0 x4_1).f2) ((rd_T54 l0 x4_1).f3.f0) ((rd_T54 l0 x4_1).f3.f1) _ _ ((rd_T54 l0 x4_1).f3.f2) _ _ ((rd_T54 l0 x4_1).f4) ((rd_T54 l0 x4_1).f5) t5 t6 t7 t8 t9 t10 t13 t16 _ ?side1 ?side2 ?side3 ?side4 A8.out).mono ?_);(case side1=>repeat (first|exact (Kd.C_below HR15004_5.out HB.out)|(with_reducible refine Kd.C_alloc ?_ _)|(with_reducible refine Kd.C_drewN ?_ _)|(with_reducible refine Kd.C_drew ?_)));(case side2=>exact HC15004_5.out);(case side3=>repeat (first|exact (Kd.C_below HR15004_6.out HB.out)|(with_reducible refine Kd.C_alloc ?_ _)|(with_reducible refine Kd.C_drewN ?_ _)|(with_reducible refine Kd.C_drew ?_)));(case side4=>exact HC15004_6.out);rintro e w11 ⟨v11,v14,rfl,ho0,ho1,hb⟩;refine ⟨_,rfl,?_⟩;replace HO_3:=zk (Kd.R_mono (Kd.R_told (Kd.R_told (Kd.R_old (za2 HO_3.out) hb) (Kd.R_base ho0)) (Kd.R_base ho1)) (fun _ h_=>h_.1));have HO12:=zk (Kd.R_lower ho0 (below_size za5));have HO15:=zk (Kd.R_lower ho1 (below_size za5));replace HB:=yB HB hb;(try clear hb ho0 ho1);have p10:0≤(x4_1:Int):=of_decide_eq_true za7;have q10:(x4_1:Int) < ((x3_1.length:Int):Int):=of_decide_eq_true za7;obtain ⟨go10,co10,eo10,gb10,gl10,cl10,HG10⟩:=Kd.R_form HO_3.out (by omega);(first|cases eo10|(injection eo10 with ea_ en_ ec_;(first|subst ea_|(injection ea_ with ea_;subst ea_));subst ec_;clear en_));have GB10:=zk gb10;have GG10:=zk HG10;clear gb10 gl10 HG10;obtain ⟨ce10,hcl10,hM10,hcc10,hfr10⟩:=Kd.R_elem HO_3.out z46 (x4_1:Int) p10 q10;obtain ⟨ve10_5,ve10_6,rfl,ge10_5,ge10_6⟩:=k46_openM hM10;have hx10_0:w11.cell? ⟨go10,(x4_1:Int).toNat * 8,none⟩=some (.int .i64 ((rd_T46 x3_1 x4_1).f0)):=hcc10 0 _ rfl;have hx10_1:w11.cell? ⟨go10,(x4_1:Int).toNat * 8+1,none⟩=some (.string ((rd_T46 x3_1 x4_1).f1)):=hcc10 1 _ rfl;have hx10_2:w11.cell? ⟨go10,(x4_1:Int).toNat * 8+2,none⟩=some (.string ((rd_T46 x3_1 x4_1).f2)):=hcc10 2 _ rfl;have hx10_3:w11.cell? ⟨go10,(x4_1:Int).toNat * 8+3,none⟩=some (.int .i64 ((rd_T46 x3_1 x4_1).f3.f0)):=hcc10 3 _ rfl;have hx10_4:w11.cell? ⟨go10,(x4_1:Int).toNat * 8+4,none⟩=some (.string ((rd_T46 x3_1 x4_1).f3.f1)):=hcc10 4 _ rfl;have hx10_5:w11.cell? ⟨go10,(x4_1:Int).toNat * 8+5,none⟩=some (ve10_5):=hcc10 5 _ rfl;have hx10_6:w11.cell? ⟨go10,(x4_1:Int).toNat * 8+6,none⟩=some (ve10_6):=hcc10 6 _ rfl;have hx10_7:w11.cell? ⟨go10,(x4_1:Int).toNat * 8+7,none⟩=some (.int .i64 ((rd_T46 x3_1 x4_1).f5)):=hcc10 7 _ rfl;have hf10_0:w11.frozen? ⟨go10,(x4_1:Int).toNat * 8,none⟩=false:=hfr10 0;have hf10_1:w11.frozen? ⟨go10,(x4_1:Int).toNat * 8+1,none⟩=false:=hfr10 1;have hf10_2:w11.frozen? ⟨go10,(x4_1:Int).toNat * 8+2,none⟩=false:=hfr10 2;have hf10_3:w11.frozen? ⟨go10,(x4_1:Int).toNat * 8+3,none⟩=false:=hfr10 3;have hf10_4:w11.frozen? ⟨go10,(x4_1:Int).toNat * 8+4,none⟩=false:=hfr10 4;have hf10_5:w11.frozen? ⟨go10,(x4_1:Int).toNat * 8+5,none⟩=false:=hfr10 5;have hf10_6:w11.frozen? ⟨go10,(x4_1:Int).toNat * 8+6,none⟩=false:=hfr10 6;have hf10_7:w11.frozen? ⟨go10,(x4_1:Int).toNat * 8+7,none⟩=false:=hfr10 7;clear hcl10 hcc10 hfr10;(try clear hM10);replace p10:=eq_true p10;replace q10:=eq_true q10;have n_:=zk (Kd.R_mono (ok':=(fun k_=>some k_ ≠ (v11:Value).ownBlock∧some k_ ≠ (v14:Value).ownBlock)) HO_3.out (fun k_ hk=>⟨hk.1.2,hk.2⟩));clear HO_3;have HO_3:=n_;clear n_;have HX12:=zk (show Kd.R k46 46 w11 w.heap.size (fun _=>True) (.slice (some ⟨go10,0,none⟩) x3_1.length co10) x3_1 from (by (with_reducible repeat (first|apply Kd.R_alloc|apply Kd.R_drewN|apply Kd.R_drew));exact Kd.R_mono HO_3.out (fun _ hk=>trivial)));obtain ⟨ce12,hcl12,hM12,hcc12,hfr12⟩:=Kd.R_elem HX12.out z46 (x4_1:Int) (of_decide_eq_true za7) (by have h_:(x4_1:Int) < ((x3_1.length:Int):Int):=of_decide_eq_true za7;first|exact h_|(have e_:=(Kd.R_reads' HO_3.out).1;omega)|simpa using h_);obtain ⟨ve12_5,ve12_6,rfl,ge12_5,ge12_6⟩:=k46_openM hM12;have HP12:=Kd.R_seg HX12.out (x4_1:Int) (of_decide_eq_true za7) (by have h_:(x4_1:Int) < ((x3_1.length:Int):Int):=of_decide_eq_true za7;first|exact h_|(have e_:=(Kd.R_reads' HO_3.out).1;omega)|simpa using h_) (seg:=[.int .i64 t5,.string t6,.string t7,.int .i64 t8,.string t9,v11,v14,.int .i64 t16]) (j:=0) hcl12 hcc12 (show 8≤8 from by decide) (x':=(⟨t5,t6,t7,(⟨t8,t9,t10⟩:S43),t13,t16⟩:S46)) (k46_mkM _ _ _ (⟨t5,t6,t7,(⟨t8,t9,t10⟩:S43),t13,t16⟩:S46) (Kd.R_mono (Kd.R_apart' (HO12.out) (Kd.R_typed HO_3.out) (by decide)) (fun k_ hk=>⟨trivial,fun e_=>(hk.2) (by rw [e_];rfl)⟩)) (Kd.R_mono (Kd.R_apart' (HO15.out) (Kd.R_typed HO_3.out) (by decide)) (fun k_ hk=>⟨trivial,fun e_=>(hk.2) (by rw [e_];rfl)⟩))) (fun _ hk=>hk);have hx12_0:=hcc12 0 _ rfl;(try simp only [show (k46).sz=8 from rfl,Nat.mul_one,Nat.add_zero] at hx12_0);have hf12_0:=hfr12 0;(try simp only [show (k46).sz=8 from rfl,Nat.mul_one,Nat.add_zero] at hf12_0);have hx12_1:=hcc12 1 _ rfl;(try simp only [show (k46).sz=8 from rfl,Nat.mul_one,Nat.add_zero] at hx12_1);have hf12_1:=hfr12 1;(try simp only [show (k46).sz=8 from rfl,Nat.mul_one,Nat.add_zero] at hf12_1);have hx12_2:=hcc12 2 _ rfl;(try simp only [show (k46).sz=8 from rfl,Nat.mul_one,Nat.add_zero] at hx12_2);have hf12_2:=hfr12 2;(try simp only [show (k46).sz=8 from rfl,Nat.mul_one,Nat.add_zero] at hf12_2);have hx12_3:=hcc12 3 _ rfl;(try simp only [show (k46).sz=8 from rfl,Nat.mul_one,Nat.add_zero] at hx12_3);have hf12_3:=hfr12 3;(try simp only [show (k46).sz=8 from rfl,Nat.mul_one,Nat.add_zero] at hf12_3);have hx12_4:=hcc12 4 _ rfl;(try simp only [show (k46).sz=8 from rfl,Nat.mul_one,Nat.add_zero] at hx12_4);have hf12_4:=hfr12 4;(try simp only [show (k46).sz=8 from rfl,Nat.mul_one,Nat.add_zero] at hf12_4);have hx12_5:=hcc12 5 _ rfl;(try simp only [show (k46).sz=8 from rfl,Nat.mul_one,Nat.add_zero] at hx12_5);have hf12_5:=hfr12 5;(try simp only [show (k46).sz=8 from rfl,Nat.mul_one,Nat.add_zero] at hf12_5);have hx12_6:=hcc12 6 _ rfl;(try simp only [show (k46).sz=8 from rfl,Nat.mul_one,Nat.add_zero] at hx12_6);have hf12_6:=hfr12 6;(try simp only [show (k46).sz=8 from rfl,Nat.mul_one,Nat.add_zero] at hf12_6);have hx12_7:=hcc12 7 _ rfl;(try simp only [show (k46).sz=8 from rfl,Nat.mul_one,Nat.add_zero] at hx12_7);have hf12_7:=hfr12 7;(try simp only [show (k46).sz=8 from rfl,Nat.mul_one,Nat.add_zero] at hf12_7);clear hcl12 hcc12 hfr12;(try clear hM12))|((with_reducible refine gate_store (t:=46) (p:=21) rfl ?_);refine store_event (t:=46) (p:=21) (v:=?vo_w13) (w1:=((((((((w11.setCell ⟨go10,(x4_1:Int).toNat * 8,none⟩ (.int .i64 t5)).setCell ⟨go10,(x4_1:Int).toNat * 8+1,none⟩ (.string t6)).setCell ⟨go10,(x4_1:Int).toNat * 8+2,none⟩ (.string t7)).setCell ⟨go10,(x4_1:Int).toNat * 8+3,none⟩ (.int .i64 t8)).setCell ⟨go10,(x4_1:Int).toNat * 8+4,none⟩ (.string t9)).setCell ⟨go10,(x4_1:Int).toNat * 8+5,none⟩ (v11)).setCell ⟨go10,(x4_1:Int).toNat * 8+6,none⟩ (v14)).setCell ⟨go10,(x4_1:Int).toNat * 8+7,none⟩ (.int .i64 t16))) ?hg ?ho ?hn ?hr ?_;(case ho=>rfl);(case hg=>rfl);(case hn=>rfl);(case hr=>first|(go_simp;done)|(go_simp;rfl)|(obtain ⟨sA_,sc_,se_⟩:=Kd.R_slice HO12.out;subst se_;first|(go_simp;done)|(go_simp;rfl))|(obtain ⟨sA_,sc_,se_⟩:=Kd.R_slice HO15.out;subst se_;first|(go_simp;done)|(go_simp;rfl))|(obtain ⟨sA0_,sc0_,se0_⟩:=Kd.R_slice HO12.out;subst se0_;obtain ⟨sA1_,sc1_,se1_⟩:=Kd.R_slice HO15.out;subst se1_;first|(go_simp;done)|(go_simp;rfl)));intro w13 hw;have hg:w11.grownBy w13 (some go10):=(by rw [hw];exact HP12.2);have hp_:Kd.R k46 46 w13 w.heap.size (fun _=>True) (.slice (some ⟨go10,0,none⟩) x3_1.length co10) y15017:=(by rw [hw,Ny17.out];exact HP12.1);clear HP12;replace HO_3:=zk hp_;replace HB:=zk ((by rw [hw];exact below_set (below_set (below_set (below_set (below_set (below_set (below_set (below_set (HB.out) GB10.out) GB10.out) GB10.out) GB10.out) GB10.out) GB10.out) GB10.out) GB10.out:Below w.heap.size w w13));clear HO12;clear HO15;clear hg hw hp_))
     go_roundg k1
     case measure=>have:=HK1.out;omega
     case rel=>exact ⟨(y15017),(wrap64 (x4_1+1)),za9,H',⟨za11⟩,⟨za2 HO_3.out⟩,⟨za5⟩⟩
    ·rw [if_neg c9] at H
     exact absurd H (by simp)
    ·rw [if_neg c7] at H
     exact absurd H (by simp)
    ·rw [if_neg c6] at H
     have c6b0:=zdnl c6
     clear c6
     obtain rfl:=zi H
     go_wp2
     go_ret
     exact ⟨_,za8,za2 HO_3.out,za5⟩
 ·rw [if_neg c3] at H
  exact absurd H (by simp)
 ·rw [if_neg c2] at H
  exact absurd H (by simp)
def laws_eqConstraint.f (k:Nat) (a0_0:Int) (a0_1:ByteArray) (a0_2:ByteArray) (a0_3:Int) (a0_4:ByteArray) (l0_5:List (S43)) (l0_6:List Int) (a0_7:Int) (a1_0:Int) (a1_1:ByteArray) (a1_2:ByteArray) (a1_3:Int) (a1_4:ByteArray) (l1_5:List (S43)) (l1_6:List Int) (a1_7:Int):Option (Bool):=if a0_0=a1_0 then (if a0_1.toList=a1_1.toList then (if a0_2.toList=a1_2.toList then ((laws_eqRegex.f k a0_3 a0_4 l0_5 a1_3 a1_4 l1_5).bind fun t31003=>(if t31003=true then ((laws_eqIntS.f k l0_6 l1_6).bind fun t31004=>(if t31004=true then (if a0_7=a1_7 then (some true) else (some false)) else (some false))) else (some false))) else (some false)) else (some false)) else (some false)
theorem laws_eqConstraint.calls (k:Nat) (a0_0:Int) (a0_1:ByteArray) (a0_2:ByteArray) (a0_3:Int) (a0_4:ByteArray) (A0_5:Option Addr) (c0_5:Nat) (l0_5:List (S43)) (A0_6:Option Addr) (c0_6:Nat) (l0_6:List Int) (a0_7:Int) (a1_0:Int) (a1_1:ByteArray) (a1_2:ByteArray) (a1_3:Int) (a1_4:ByteArray) (A1_5:Option Addr) (c1_5:Nat) (l1_5:List (S43)) (A1_6:Option Addr) (c1_6:Nat) (l1_6:List Int) (a1_7:Int) (r:Bool) (w:World) (hr0_5:Kd.C k43 w A0_5 l0_5.length l0_5) (hc0_5:l0_5.length≤c0_5) (hr0_6:Kd.C (Kd.int .i64) w A0_6 l0_6.length l0_6) (hc0_6:l0_6.length≤c0_6) (hr1_5:Kd.C k43 w A1_5 l1_5.length l1_5) (hc1_5:l1_5.length≤c1_5) (hr1_6:Kd.C (Kd.int .i64) w A1_6 l1_6.length l1_6) (hc1_6:l1_6.length≤c1_6) (h:laws_eqConstraint.f k a0_0 a0_1 a0_2 a0_3 a0_4 l0_5 l0_6 a0_7 a1_0 a1_1 a1_2 a1_3 a1_4 l1_5 l1_6 a1_7=some r) :
   Calls Try.prog 31 #[.agg #[.int .i64 a0_0,.string a0_1,.string a0_2,.int .i64 a0_3,.string a0_4,.slice A0_5 l0_5.length c0_5,.slice A0_6 l0_6.length c0_6,.int .i64 a0_7],.agg #[.int .i64 a1_0,.string a1_1,.string a1_2,.int .i64 a1_3,.string a1_4,.slice A1_5 l1_5.length c1_5,.slice A1_6 l1_6.length c1_6,.int .i64 a1_7]] w fun e w'=>e = .returned (.bool r)∧Below w.heap.size w w':=by
 have hu46:=Try.underlying46
 have hu43:=Try.underlying43
 have HR0_5:=zk hr0_5
 have HC0_5:=zk hc0_5
 clear hr0_5 hc0_5
 have HR0_6:=zk hr0_6
 have HC0_6:=zk hc0_6
 clear hr0_6 hc0_6
 have HR1_5:=zk hr1_5
 have HC1_5:=zk hc1_5
 clear hr1_5 hc1_5
 have HR1_6:=zk hr1_6
 have HC1_6:=zk hc1_6
 clear hr1_6 hc1_6
 have HB:=zk (Below.refl w.heap.size w)
 have H:=h
 unfold laws_eqConstraint.f at H
 clear h
 by_cases c3:a0_0=a1_0
 rw [if_pos c3] at H
 have c3b0:=zbt c3
 have c3b1:=zqn c3
 clear c3
 by_cases c4:a0_1.toList=a1_1.toList
 rw [if_pos c4] at H
 have c4b0:=zbt c4
 have c4b1:=zqn c4
 clear c4
 by_cases c5:a0_2.toList=a1_2.toList
 rw [if_pos c5] at H
 have c5b0:=zbt c5
 have c5b1:=zqn c5
 clear c5
 obtain ⟨t3,A6,H⟩:=zO H
 try dsimp only at H
 by_cases c7:t3=true
 subst c7
 rw [if_pos rfl] at H
 try dsimp only at H
 obtain ⟨t4,A8,H⟩:=zO H
 try dsimp only at H
 by_cases c9:t4=true
 subst c9
 rw [if_pos rfl] at H
 try dsimp only at H
 by_cases c10:a0_7=a1_7
 rw [if_pos c10] at H
 have c10b0:=zbt c10
 have c10b1:=zqn c10
 clear c10
 rotate_left
 rw [if_neg c10] at H
 have c10b0:=zbn c10
 have c10b1:=zqt c10
 rotate_left
 replace c9:=Bool.eq_false_iff.mpr c9
 subst c9
 rw [if_neg zff] at H
 try dsimp only at H
 rotate_left
 replace c7:=Bool.eq_false_iff.mpr c7
 subst c7
 rw [if_neg zff] at H
 try dsimp only at H
 rotate_left
 rw [if_neg c5] at H
 have c5b0:=zbn c5
 have c5b1:=zqt c5
 rotate_left
 rw [if_neg c4] at H
 have c4b0:=zbn c4
 have c4b1:=zqt c4
 rotate_left
 rw [if_neg c3] at H
 have c3b0:=zbn c3
 have c3b1:=zqt c3
 rotate_left
 all_goals
  obtain rfl:=zi H
  go_enter Try.func31,Try.ntmps31
  go_wp2_with (first|((with_reducible refine gate_dst (N:=2) rfl ?_);refine zE (cs:=#[.int .i64 a0_0,.string a0_1,.string a0_2,.int .i64 a0_3,.string a0_4,.slice A0_5 l0_5.length c0_5,.slice A0_6 l0_6.length c0_6,.int .i64 a0_7]) (t:=46) ?_;intro gb1 hg w11 hbox hb;have BK1:=zk hbox;have GW1:=zk (zs (w:=w) hg za5);have GE1:=GW1;replace HB:=yB HB hb;clear hb hbox hg)|((with_reducible refine gate_dst (N:=3) rfl ?_);refine zE (cs:=#[.int .i64 a1_0,.string a1_1,.string a1_2,.int .i64 a1_3,.string a1_4,.slice A1_5 l1_5.length c1_5,.slice A1_6 l1_6.length c1_6,.int .i64 a1_7]) (t:=46) ?_;intro gb2 hg w12 hbox hb;have BK2:=zk hbox;have GW2:=zk (zs (w:=w) hg za5);have GE2:=GW2;have NB1_2:=yn hg BK1;have NB2_1:=yp hg BK1;replace BK1:=yb BK1 hb;replace HB:=yB HB hb;clear hb hbox hg;have hnb13:=NB1_2.out;have hnc13:=NB2_1.out;obtain ⟨hcz14_0,hcz14_1,hcz14_2,hcz14_3,hcz14_4,hcz14_5,hcz14_6,hcz14_7,hfz14_0,hfz14_1,hfz14_2,hfz14_3,hfz14_4,hfz14_5,hfz14_6,hfz14_7⟩:=blk8 BK1.out;obtain ⟨hcz15_0,hcz15_1,hcz15_2,hcz15_3,hcz15_4,hcz15_5,hcz15_6,hcz15_7,hfz15_0,hfz15_1,hfz15_2,hfz15_3,hfz15_4,hfz15_5,hfz15_6,hfz15_7⟩:=blk8 BK2.out)|((with_reducible refine gate_callee (f:=54) rfl ?_);refine zg (some 24) Try.func54 #[.agg #[.int .i64 a0_3,.string a0_4,.slice A0_5 l0_5.length c0_5],.agg #[.int .i64 a1_3,.string a1_4,.slice A1_5 l1_5.length c1_5]] rfl za6 ?_;(with_reducible refine (laws_eqRegex.calls k a0_3 a0_4 _ _ l0_5 a1_3 a1_4 _ _ l1_5 _ _ ?side1 ?side2 ?side3 ?side4 A6.out).mono ?_);(case side1=>repeat (first|exact (Kd.C_below HR0_5.out HB.out)|(with_reducible refine Kd.C_alloc ?_ _)|(with_reducible refine Kd.C_drewN ?_ _)|(with_reducible refine Kd.C_drew ?_)));(case side2=>exact HC0_5.out);(case side3=>repeat (first|exact (Kd.C_below HR1_5.out HB.out)|(with_reducible refine Kd.C_alloc ?_ _)|(with_reducible refine Kd.C_drewN ?_ _)|(with_reducible refine Kd.C_drew ?_)));(case side4=>exact HC1_5.out);rintro e w16 ⟨rfl,hb⟩;refine ⟨_,rfl,?_⟩;replace BK1:=yb BK1 hb;replace BK2:=yb BK2 hb;replace HB:=yB HB hb;(try clear hb);obtain ⟨hcz17_0,hcz17_1,hcz17_2,hcz17_3,hcz17_4,hcz17_5,hcz17_6,hcz17_7,hfz17_0,hfz17_1,hfz17_2,hfz17_3,hfz17_4,hfz17_5,hfz17_6,hfz17_7⟩:=blk8 BK1.out;obtain ⟨hcz18_0,hcz18_1,hcz18_2,hcz18_3,hcz18_4,hcz18_5,hcz18_6,hcz18_7,hfz18_0,hfz18_1,hfz18_2,hfz18_3,hfz18_4,hfz18_5,hfz18_6,hfz18_7⟩:=blk8 BK2.out)|((with_reducible refine gate_callee (f:=55) rfl ?_);refine zg (some 30) Try.func55 #[.slice A0_6 l0_6.length c0_6,.slice A1_6 l1_6.length c1_6] rfl za6 ?_;(with_reducible refine (laws_eqIntS.calls k _ _ l0_6 _ _ l1_6 _ _ ?side1 ?side2 ?side3 ?side4 A8.out).mono ?_);(case side1=>repeat (first|exact (Kd.C_below HR0_6.out HB.out)|(with_reducible refine Kd.C_alloc ?_ _)|(with_reducible refine Kd.C_drewN ?_ _)|(with_reducible refine Kd.C_drew ?_)));(case side2=>exact HC0_6.out);(case side3=>repeat (first|exact (Kd.C_below HR1_6.out HB.out)|(with_reducible refine Kd.C_alloc ?_ _)|(with_reducible refine Kd.C_drewN ?_ _)|(with_reducible refine Kd.C_drew ?_)));(case side4=>exact HC1_6.out);rintro e w' ⟨rfl,⟨nd,rfl⟩⟩;refine ⟨_,rfl,?_⟩))
  go_ret
  exact ⟨za8,za5⟩
def laws_eqConstraintS.l0:Nat→List (S46)→List (S46)→Int→Option (Bool)
 | 0,_,_,_=>none
 | k+1,x0,x1,x5=>if x5 < (x0.length:Int) then (if 0≤x5 then (if x5 < (x1.length:Int) then ((laws_eqConstraint.f k ((rd_T46 x0 x5).f0) ((rd_T46 x0 x5).f1) ((rd_T46 x0 x5).f2) ((rd_T46 x0 x5).f3.f0) ((rd_T46 x0 x5).f3.f1) ((rd_T46 x0 x5).f3.f2) ((rd_T46 x0 x5).f4) ((rd_T46 x0 x5).f5) ((rd_T46 x1 x5).f0) ((rd_T46 x1 x5).f1) ((rd_T46 x1 x5).f2) ((rd_T46 x1 x5).f3.f0) ((rd_T46 x1 x5).f3.f1) ((rd_T46 x1 x5).f3.f2) ((rd_T46 x1 x5).f4) ((rd_T46 x1 x5).f5)).bind fun t20003=>(if t20003=true then (laws_eqConstraintS.l0 k x0 x1 (wrap64 (x5+1))) else (some false))) else (none)) else (none)) else (some true)
def laws_eqConstraintS.f (k:Nat) (l0:List (S46)) (l1:List (S46)):Option (Bool):=if (l0.length:Int)=(l1.length:Int) then (laws_eqConstraintS.l0 k l0 l1 0) else (some false)
def laws_eqConstraintS.T6:Bool × List (List Nat × List Nat):=(true,[([],[]),([],[]),([0,1],[0,1]),([2],[2]),([],[]),([],[]),([4,5],[4,5]),([6],[6]),([3,7],[3,7]),([8],[8])])
def laws_eqConstraintS.B6:List Nat:=[0,0,3,7,0,0,48,112,255,511]
theorem laws_eqConstraintS.tab6:rtab .any (opsOf Try.f20 6)=laws_eqConstraintS.T6:=by kernel_rfl
theorem laws_eqConstraintS.bits6:waitsOk laws_eqConstraintS.T6.2 laws_eqConstraintS.B6=true:=by kernel_rfl
theorem laws_eqConstraintS.calls (k:Nat) (A0:Option Addr) (c0:Nat) (l0:List (S46)) (A1:Option Addr) (c1:Nat) (l1:List (S46)) (r:Bool) (w:World) (hr0:Kd.C k46 w A0 l0.length l0) (hc0:l0.length≤c0) (hr1:Kd.C k46 w A1 l1.length l1) (hc1:l1.length≤c1) (h:laws_eqConstraintS.f k l0 l1=some r) :
  Calls Try.prog 20 #[.slice A0 l0.length c0,.slice A1 l1.length c1] w fun e w'=>e = .returned (.bool r)∧Below w.heap.size w w':=by
 have hu46:=Try.underlying46
 have HR0:=zk hr0
 have HC0:=zk hc0
 clear hr0 hc0
 have HR1:=zk hr1
 have HC1:=zk hc1
 clear hr1 hc1
 have HB:=zk (Below.refl w.heap.size w)
 have H:=h
 unfold laws_eqConstraintS.f at H
 clear h
 by_cases c3:(l0.length:Int)=(l1.length:Int)
 ·rw [if_pos c3] at H
  have c3b0:=zbt c3
  have c3b1:=zqn c3
  have c3b2:(l0.length == l1.length)=true:=by first|simpa using c3|(simp at c3 ⊢;omega)
  clear c3
  have H':=zk H
  clear H
  go_enter Try.func20,Try.ntmps20
  go_wp2
  try simp only [Act.put,zt,zv,zu]
  go_loopg [5] k (fun kq v5 w'=>∃ (x5_1:Int),v5 = .int .i64 x5_1∧Aside0 (laws_eqConstraintS.l0 kq l0 l1 x5_1=some r)∧Aside0 (kq≤k)∧Aside0 (Below w.heap.size w w'))
  case atStart=>exact ⟨(0),za9,H',⟨Nat.le_refl _⟩,⟨za5⟩⟩
  case round =>
   clear H'
   try clear c3
   try clear c3b0
   try clear c3b1
   try clear c3b2
   obtain ⟨x5_1,rfl,HA,HK1,HB⟩:=hrel
   cases gk with
   | zero=>exact absurd HA.out (by simp [laws_eqConstraintS.l0])
   | succ k1 =>
    have H:=HA.out
    clear HA
    simp only [laws_eqConstraintS.l0] at H
    by_cases c4:x5_1 < (l0.length:Int)
    rw [if_pos c4] at H
    have c4b0:=zdl c4
    clear c4
    by_cases c5:0≤x5_1
    rw [if_pos c5] at H
    have c5b0:=zdle c5
    clear c5
    by_cases c6:x5_1 < (l1.length:Int)
    rw [if_pos c6] at H
    have c6b0:=zdl c6
    clear c6
    obtain ⟨t3,A7,H⟩:=zO H
    try dsimp only at H
    by_cases c8:t3=true
    subst c8
    rw [if_pos rfl] at H
    try dsimp only at H
    have H':=zk H
    clear H
    have fin1_:=zk trivial
    rotate_left
    replace c8:=Bool.eq_false_iff.mpr c8
    subst c8
    rw [if_neg zff] at H
    try dsimp only at H
    obtain rfl:=zi H
    have fin0_:=zk trivial
    rotate_left
    · rw [if_neg c6] at H
      exact absurd H (by simp)
    · rw [if_neg c5] at H
      exact absurd H (by simp)
    · rw [if_neg c4] at H
      have c4b0:=zdnl c4
      clear c4
      obtain rfl:=zi H
      go_wp2
      go_ret
      exact ⟨za8,za5⟩
    all_goals
     try go_wp2
     replace HB:=zk (below_drew1 HB.out)
     have p20001:0≤(x5_1:Int):=of_decide_eq_true za7
     have q20001:x5_1 < (l0.length:Int):=of_decide_eq_true za7
     obtain ⟨ad20001,A20001_5,c20001_5,A20001_6,c20001_6,e20001,hx20001_0,hx20001_1,hx20001_2,hx20001_3,hx20001_4,hx20001_5,hx20001_6,hx20001_7,hl20001_5,hi20001_5,hl20001_6,hi20001_6⟩:=at_T46 HR0.out x5_1 p20001 q20001
     have hw20001_7:=hx20001_7
     have hw20001_6:=hx20001_6
     have hw20001_5:=hx20001_5
     have hw20001_4:=hx20001_4
     have hw20001_3:=hx20001_3
     have hw20001_2:=hx20001_2
     have hw20001_1:=hx20001_1
     have hw20001_0:=hx20001_0
     cases e20001
     replace hx20001_0:=zx HB.out hx20001_0
     replace hx20001_1:=zx HB.out hx20001_1
     replace hx20001_2:=zx HB.out hx20001_2
     replace hx20001_3:=zx HB.out hx20001_3
     replace hx20001_4:=zx HB.out hx20001_4
     replace hx20001_5:=zx HB.out hx20001_5
     replace hx20001_6:=zx HB.out hx20001_6
     replace hx20001_7:=zx HB.out hx20001_7
     have HR20001_5:=zk hi20001_5
     have HC20001_5:=zk hl20001_5
     clear hi20001_5 hl20001_5
     have HR20001_6:=zk hi20001_6
     have HC20001_6:=zk hl20001_6
     clear hi20001_6 hl20001_6
     replace p20001:=eq_true p20001
     replace q20001:=eq_true q20001
     have p20002:0≤(x5_1:Int):=of_decide_eq_true za7
     have q20002:x5_1 < (l1.length:Int):=of_decide_eq_true za7
     obtain ⟨ad20002,A20002_5,c20002_5,A20002_6,c20002_6,e20002,hx20002_0,hx20002_1,hx20002_2,hx20002_3,hx20002_4,hx20002_5,hx20002_6,hx20002_7,hl20002_5,hi20002_5,hl20002_6,hi20002_6⟩:=at_T46 HR1.out x5_1 p20002 q20002
     have hw20002_7:=hx20002_7
     have hw20002_6:=hx20002_6
     have hw20002_5:=hx20002_5
     have hw20002_4:=hx20002_4
     have hw20002_3:=hx20002_3
     have hw20002_2:=hx20002_2
     have hw20002_1:=hx20002_1
     have hw20002_0:=hx20002_0
     cases e20002
     replace hx20002_0:=zx HB.out hx20002_0
     replace hx20002_1:=zx HB.out hx20002_1
     replace hx20002_2:=zx HB.out hx20002_2
     replace hx20002_3:=zx HB.out hx20002_3
     replace hx20002_4:=zx HB.out hx20002_4
     replace hx20002_5:=zx HB.out hx20002_5
     replace hx20002_6:=zx HB.out hx20002_6
     replace hx20002_7:=zx HB.out hx20002_7
     have HR20002_5:=zk hi20002_5
     have HC20002_5:=zk hl20002_5
     clear hi20002_5 hl20002_5
     have HR20002_6:=zk hi20002_6
     have HC20002_6:=zk hl20002_6
     clear hi20002_6 hl20002_6
     replace p20002:=eq_true p20002
     replace q20002:=eq_true q20002
     refine start_ (n:=10) (S:=fun w'=>w'.cell? (ad20001.add ((x5_1).toNat * 8))=some (.int .i64 ((rd_T46 l0 x5_1).f0))∧w'.cell? ⟨(ad20001.add ((x5_1).toNat * 8)).block,(ad20001.add ((x5_1).toNat * 8)).off+1,none⟩=some (.string ((rd_T46 l0 x5_1).f1))∧w'.cell? ⟨(ad20001.add ((x5_1).toNat * 8)).block,(ad20001.add ((x5_1).toNat * 8)).off+2,none⟩=some (.string ((rd_T46 l0 x5_1).f2))∧w'.cell? ⟨(ad20001.add ((x5_1).toNat * 8)).block,(ad20001.add ((x5_1).toNat * 8)).off+3,none⟩=some (.int .i64 ((rd_T46 l0 x5_1).f3.f0))∧w'.cell? ⟨(ad20001.add ((x5_1).toNat * 8)).block,(ad20001.add ((x5_1).toNat * 8)).off+4,none⟩=some (.string ((rd_T46 l0 x5_1).f3.f1))∧w'.cell? ⟨(ad20001.add ((x5_1).toNat * 8)).block,(ad20001.add ((x5_1).toNat * 8)).off+5,none⟩=some (.slice A20001_5 ((rd_T46 l0 x5_1).f3.f2).length c20001_5)∧w'.cell? ⟨(ad20001.add ((x5_1).toNat * 8)).block,(ad20001.add ((x5_1).toNat * 8)).off+6,none⟩=some (.slice A20001_6 ((rd_T46 l0 x5_1).f4).length c20001_6)∧w'.cell? ⟨(ad20001.add ((x5_1).toNat * 8)).block,(ad20001.add ((x5_1).toNat * 8)).off+7,none⟩=some (.int .i64 ((rd_T46 l0 x5_1).f5))∧w'.cell? (ad20002.add ((x5_1).toNat * 8))=some (.int .i64 ((rd_T46 l1 x5_1).f0))∧w'.cell? ⟨(ad20002.add ((x5_1).toNat * 8)).block,(ad20002.add ((x5_1).toNat * 8)).off+1,none⟩=some (.string ((rd_T46 l1 x5_1).f1))∧w'.cell? ⟨(ad20002.add ((x5_1).toNat * 8)).block,(ad20002.add ((x5_1).toNat * 8)).off+2,none⟩=some (.string ((rd_T46 l1 x5_1).f2))∧w'.cell? ⟨(ad20002.add ((x5_1).toNat * 8)).block,(ad20002.add ((x5_1).toNat * 8)).off+3,none⟩=some (.int .i64 ((rd_T46 l1 x5_1).f3.f0))∧w'.cell? ⟨(ad20002.add ((x5_1).toNat * 8)).block,(ad20002.add ((x5_1).toNat * 8)).off+4,none⟩=some (.string ((rd_T46 l1 x5_1).f3.f1))∧w'.cell? ⟨(ad20002.add ((x5_1).toNat * 8)).block,(ad20002.add ((x5_1).toNat * 8)).off+5,none⟩=some (.slice A20002_5 ((rd_T46 l1 x5_1).f3.f2).length c20002_5)∧w'.cell? ⟨(ad20002.add ((x5_1).toNat * 8)).block,(ad20002.add ((x5_1).toNat * 8)).off+6,none⟩=some (.slice A20002_6 ((rd_T46 l1 x5_1).f4).length c20002_6)∧w'.cell? ⟨(ad20002.add ((x5_1).toNat * 8)).block,(ad20002.add ((x5_1).toNat * 8)).off+7,none⟩=some (.int .i64 ((rd_T46 l1 x5_1).f5))) (ds:=[]) #[false,false,false,false,false,false,false,false,false,false] (by kernel_rfl) rfl rfl ⟨((HB.out.cell (World.block_lt_of_cell? w _ hw20001_0)).trans hw20001_0),((HB.out.cell (World.block_lt_of_cell? w _ hw20001_1)).trans hw20001_1),((HB.out.cell (World.block_lt_of_cell? w _ hw20001_2)).trans hw20001_2),((HB.out.cell (World.block_lt_of_cell? w _ hw20001_3)).trans hw20001_3),((HB.out.cell (World.block_lt_of_cell? w _ hw20001_4)).trans hw20001_4),((HB.out.cell (World.block_lt_of_cell? w _ hw20001_5)).trans hw20001_5),((HB.out.cell (World.block_lt_of_cell? w _ hw20001_6)).trans hw20001_6),((HB.out.cell (World.block_lt_of_cell? w _ hw20001_7)).trans hw20001_7),((HB.out.cell (World.block_lt_of_cell? w _ hw20002_0)).trans hw20002_0),((HB.out.cell (World.block_lt_of_cell? w _ hw20002_1)).trans hw20002_1),((HB.out.cell (World.block_lt_of_cell? w _ hw20002_2)).trans hw20002_2),((HB.out.cell (World.block_lt_of_cell? w _ hw20002_3)).trans hw20002_3),((HB.out.cell (World.block_lt_of_cell? w _ hw20002_4)).trans hw20002_4),((HB.out.cell (World.block_lt_of_cell? w _ hw20002_5)).trans hw20002_5),((HB.out.cell (World.block_lt_of_cell? w _ hw20002_6)).trans hw20002_6),((HB.out.cell (World.block_lt_of_cell? w _ hw20002_7)).trans hw20002_7)⟩ (fun hHeld=>?_);refine with_tabW laws_eqConstraintS.tab6 laws_eqConstraintS.bits6 (fun HT_ HW_=>?_)
     generalize wr.drew=w11 at HB HR20001_5 HR20001_6 HR20002_5 HR20002_6 hx20001_0 hx20001_1 hx20001_2 hx20001_3 hx20001_4 hx20001_5 hx20001_6 hx20001_7 hx20002_0 hx20002_1 hx20002_2 hx20002_3 hx20002_4 hx20002_5 hx20002_6 hx20002_7 hHeld ⊢
     refine zy 0 (some 17) HT_.out ?_
     refine zy 1 (some 18) HT_.out ?_
     refine zy 2 (some 19) HT_.out ?_
     refine zy 4 (some 21) HT_.out ?_
     refine zy 5 (some 22) HT_.out ?_
     refine zy 6 (some 23) HT_.out ?_
     refine ztk 3 (some 20) HT_.out HW_.out hHeld ?_
     refine ztk 7 (some 24) HT_.out HW_.out hHeld ?_
     refine zon 8 (some 25) HT_.out (fun K hK=>?_)
     refine goes_ Try.func31 (by kernel_rfl) rfl #[.agg #[.int .i64 ((rd_T46 l0 x5_1).f0),.string ((rd_T46 l0 x5_1).f1),.string ((rd_T46 l0 x5_1).f2),.int .i64 ((rd_T46 l0 x5_1).f3.f0),.string ((rd_T46 l0 x5_1).f3.f1),.slice A20001_5 ((rd_T46 l0 x5_1).f3.f2).length c20001_5,.slice A20001_6 ((rd_T46 l0 x5_1).f4).length c20001_6,.int .i64 ((rd_T46 l0 x5_1).f5)],.agg #[.int .i64 ((rd_T46 l1 x5_1).f0),.string ((rd_T46 l1 x5_1).f1),.string ((rd_T46 l1 x5_1).f2),.int .i64 ((rd_T46 l1 x5_1).f3.f0),.string ((rd_T46 l1 x5_1).f3.f1),.slice A20002_5 ((rd_T46 l1 x5_1).f3.f2).length c20002_5,.slice A20002_6 ((rd_T46 l1 x5_1).f4).length c20002_6,.int .i64 ((rd_T46 l1 x5_1).f5)]] (by rfl) rfl rfl za6 ?_
     with_reducible refine (laws_eqConstraint.calls k1 ((rd_T46 l0 x5_1).f0) ((rd_T46 l0 x5_1).f1) ((rd_T46 l0 x5_1).f2) ((rd_T46 l0 x5_1).f3.f0) ((rd_T46 l0 x5_1).f3.f1) _ _ ((rd_T46 l0 x5_1).f3.f2) _ _ ((rd_T46 l0 x5_1).f4) ((rd_T46 l0 x5_1).f5) ((rd_T46 l1 x5_1).f0) ((rd_T46 l1 x5_1).f1) ((rd_T46 l1 x5_1).f2) ((rd_T46 l1 x5_1).f3.f0) ((rd_T46 l1 x5_1).f3.f1) _ _ ((rd_T46 l1 x5_1).f3.f2) _ _ ((rd_T46 l1 x5_1).f4) ((rd_T46 l1 x5_1).f5) _ _ ?side1 ?side2 ?side3 ?side4 ?side5 ?side6 ?side7 ?side8 A7.out).mono ?_
     (case side1=>repeat (first|exact (Kd.C_below HR20001_5.out HB.out)|(with_reducible refine Kd.C_alloc ?_ _)|(with_reducible refine Kd.C_drewN ?_ _)|(with_reducible refine Kd.C_drew ?_)))
     (case side2=>exact HC20001_5.out)
     (case side3=>repeat (first|exact (Kd.C_below HR20001_6.out HB.out)|(with_reducible refine Kd.C_alloc ?_ _)|(with_reducible refine Kd.C_drewN ?_ _)|(with_reducible refine Kd.C_drew ?_)))
     (case side4=>exact HC20001_6.out)
     (case side5=>repeat (first|exact (Kd.C_below HR20002_5.out HB.out)|(with_reducible refine Kd.C_alloc ?_ _)|(with_reducible refine Kd.C_drewN ?_ _)|(with_reducible refine Kd.C_drew ?_)))
     (case side6=>exact HC20002_5.out)
     (case side7=>repeat (first|exact (Kd.C_below HR20002_6.out HB.out)|(with_reducible refine Kd.C_alloc ?_ _)|(with_reducible refine Kd.C_drewN ?_ _)|(with_reducible refine Kd.C_drew ?_)))
     (case side8=>exact HC20002_6.out)
     rintro e w12 ⟨rfl,hb⟩
     refine ⟨_,rfl,?_⟩
     replace HB:=yB HB hb
     (try clear hb)
     (try clear hb2)
     (try clear hk)
     (try clear hi)
     refine hK.out _ _ ⟨((HB.out.cell (World.block_lt_of_cell? w _ hw20001_0)).trans hw20001_0),((HB.out.cell (World.block_lt_of_cell? w _ hw20001_1)).trans hw20001_1),((HB.out.cell (World.block_lt_of_cell? w _ hw20001_2)).trans hw20001_2),((HB.out.cell (World.block_lt_of_cell? w _ hw20001_3)).trans hw20001_3),((HB.out.cell (World.block_lt_of_cell? w _ hw20001_4)).trans hw20001_4),((HB.out.cell (World.block_lt_of_cell? w _ hw20001_5)).trans hw20001_5),((HB.out.cell (World.block_lt_of_cell? w _ hw20001_6)).trans hw20001_6),((HB.out.cell (World.block_lt_of_cell? w _ hw20001_7)).trans hw20001_7),((HB.out.cell (World.block_lt_of_cell? w _ hw20002_0)).trans hw20002_0),((HB.out.cell (World.block_lt_of_cell? w _ hw20002_1)).trans hw20002_1),((HB.out.cell (World.block_lt_of_cell? w _ hw20002_2)).trans hw20002_2),((HB.out.cell (World.block_lt_of_cell? w _ hw20002_3)).trans hw20002_3),((HB.out.cell (World.block_lt_of_cell? w _ hw20002_4)).trans hw20002_4),((HB.out.cell (World.block_lt_of_cell? w _ hw20002_5)).trans hw20002_5),((HB.out.cell (World.block_lt_of_cell? w _ hw20002_6)).trans hw20002_6),((HB.out.cell (World.block_lt_of_cell? w _ hw20002_7)).trans hw20002_7)⟩ (fun hHeld=>?_)
     clear hK K
     refine zno (some 25) ?_
     refine zy 9 (some 26) HT_.out ?_
     refine done_ (done_of HT_.out (by kernel_rfl)) ?_
     try go_wp2
     first
     | (
       clear fin0_
       go_ret
       exact ⟨za8,za5⟩)
     | (
       clear fin1_
       go_roundg k1
       case measure=>have:=HK1.out;omega
       case rel=>exact ⟨(wrap64 (x5_1+1)),za9,H',⟨za11⟩,⟨za5⟩⟩)
 ·rw [if_neg c3] at H
  have c3b0:=zbn c3
  have c3b1:=zqt c3
  have c3b2:(l0.length == l1.length)=false:=by first|simpa using c3|(simp at c3 ⊢;omega)
  obtain rfl:=zi H
  go_enter Try.func20,Try.ntmps20
  go_wp2
  go_ret
  exact ⟨za8,za5⟩
def laws_szProblem.f (k:Nat) (l0_0:List (S54)) (a1:Int):Option (Int):=(laws_szConstraintS.f k l0_0 a1).bind fun t4002=>(if t4002 < 0 then (some (-1)) else (some t4002))
theorem laws_szProblem.calls (k:Nat) (A0_0:Option Addr) (c0_0:Nat) (l0_0:List (S54)) (a1:Int) (r:Int) (w:World) (hr0_0:Kd.C k54 w A0_0 l0_0.length l0_0) (hc0_0:l0_0.length≤c0_0) (h:laws_szProblem.f k l0_0 a1=some r) :
   Calls Try.prog 4 #[.agg #[.slice A0_0 l0_0.length c0_0],.int .i64 a1] w fun e w'=>e = .returned (.int .i64 r)∧Below w.heap.size w w':=by
 have hu24:=Try.underlying24
 have HR0_0:=zk hr0_0
 have HC0_0:=zk hc0_0
 clear hr0_0 hc0_0
 have HB:=zk (Below.refl w.heap.size w)
 have H:=h
 unfold laws_szProblem.f at H
 clear h
 obtain ⟨t2,A3,H⟩:=zO H
 try dsimp only at H
 by_cases c4:t2 < 0
 rw [if_pos c4] at H
 have c4b0:=zdl c4
 rotate_left
 rw [if_neg c4] at H
 have c4b0:=zdnl c4
 rotate_left
 all_goals
  clear c4
  obtain rfl:=zi H
  go_enter Try.func4,Try.ntmps4
  go_wp2_with (first|((with_reducible refine gate_dst (N:=2) rfl ?_);refine zE (cs:=#[.slice A0_0 l0_0.length c0_0]) (t:=24) ?_;intro gb1 hg w8 hbox hb;have BK1:=zk hbox;have GW1:=zk (zs (w:=w) hg za5);have GE1:=GW1;replace HB:=yB HB hb;clear hb hbox hg;obtain ⟨hcz9_0,hfz9_0⟩:=blk1 BK1.out)|((with_reducible refine gate_callee (f:=11) rfl ?_);refine zg (some 8) Try.func11 #[.slice A0_0 l0_0.length c0_0,.int .i64 a1] rfl za6 ?_;(with_reducible refine (laws_szConstraintS.calls k _ _ l0_0 a1 t2 _ ?side1 ?side2 A3.out).mono ?_);(case side1=>repeat (first|exact (Kd.C_below HR0_0.out HB.out)|(with_reducible refine Kd.C_alloc ?_ _)|(with_reducible refine Kd.C_drewN ?_ _)|(with_reducible refine Kd.C_drew ?_)));(case side2=>exact HC0_0.out);rintro e w10 ⟨rfl,hb⟩;refine ⟨_,rfl,?_⟩;replace BK1:=yb BK1 hb;replace HB:=yB HB hb;(try clear hb)))
  go_ret
  exact ⟨za8,za5⟩
def laws_toProblem.f (k:Nat) (l0_0:List (S54)):Option ((List (S46))):=(laws_toConstraintS.f k l0_0).bind fun t6004=>(some t6004)
theorem laws_toProblem.calls (k:Nat) (A0_0:Option Addr) (c0_0:Nat) (l0_0:List (S54)) (r:List (S46)) (w:World) (hr0_0:Kd.C k54 w A0_0 l0_0.length l0_0) (hc0_0:l0_0.length≤c0_0) (h:laws_toProblem.f k l0_0=some r) :
  Calls Try.prog 6 #[.agg #[.slice A0_0 l0_0.length c0_0]] w fun e w'=>∃ v0_:Value,e = .returned (.agg #[v0_])∧Kd.R k46 46 w' w.heap.size (fun _=>True) v0_ r∧Below w.heap.size w w':=by
 have hu24:=Try.underlying24
 have hu28:=Try.underlying28
 have HR0_0:=zk hr0_0
 have HC0_0:=zk hc0_0
 clear hr0_0 hc0_0
 have HB:=zk (Below.refl w.heap.size w)
 have H:=h
 unfold laws_toProblem.f at H
 clear h
 obtain ⟨t4,A2,H⟩:=zO H
 try dsimp only at H
 obtain rfl:=zi H
 go_enter Try.func6,Try.ntmps6
 go_wp2_with (first|((with_reducible refine gate_dst (N:=1) rfl ?_);refine zE (cs:=#[.slice A0_0 l0_0.length c0_0]) (t:=24) ?_;intro gb1 hg w3 hbox hb;have BK1:=zk hbox;have GW1:=zk (zs (w:=w) hg za5);have GE1:=GW1;replace HB:=yB HB hb;clear hb hbox hg)|((with_reducible refine gate_dst (N:=2) rfl ?_);refine zE (cs:=#[.slice none 0 0]) (t:=28) ?_;intro gb2 hg w4 hbox hb;have BK2:=zk hbox;have GW2:=zk (zs (w:=w) hg za5);have GE2:=GW2;have NB1_2:=yn hg BK1;have NB2_1:=yp hg BK1;replace BK1:=yb BK1 hb;replace HB:=yB HB hb;clear hb hbox hg)|((with_reducible refine gate_dst (N:=3) rfl ?_);refine zE (cs:=#[.slice none 0 0]) (t:=28) ?_;intro gb3 hg w5 hbox hb;have BK3:=zk hbox;have GW3:=zk (zs (w:=w) hg za5);have GE3:=GW3;have NB1_3:=yn hg BK1;have NB3_1:=yp hg BK1;have NB2_3:=yn hg BK2;have NB3_2:=yp hg BK2;replace BK1:=yb BK1 hb;replace BK2:=yb BK2 hb;replace HB:=yB HB hb;clear hb hbox hg;have hnb6:=NB1_2.out;have hnc6:=NB2_1.out;have hnb7:=NB1_3.out;have hnc7:=NB3_1.out;obtain ⟨hcz8_0,hfz8_0⟩:=blk1 BK1.out)|((with_reducible refine gate_callee (f:=15) rfl ?_);refine zg (some 6) Try.func15 #[.slice A0_0 l0_0.length c0_0] rfl za6 ?_;(with_reducible refine (laws_toConstraintS.calls k _ _ l0_0 t4 _ ?side1 ?side2 A2.out).mono ?_);(case side1=>repeat (first|exact (Kd.C_below HR0_0.out HB.out)|(with_reducible refine Kd.C_alloc ?_ _)|(with_reducible refine Kd.C_drewN ?_ _)|(with_reducible refine Kd.C_drew ?_)));(case side2=>exact HC0_0.out);rintro e w9 ⟨v5,rfl,ho0,hb⟩;refine ⟨_,rfl,?_⟩;have HO6:=zk (Kd.R_lower ho0 (below_size za5));replace BK1:=yb BK1 hb;replace BK2:=yb BK2 hb;replace BK3:=yb BK3 hb;replace HB:=yB HB hb;(try clear hb ho0);obtain ⟨Ao10,co10,eo10⟩:=Kd.R_slice HO6.out;subst eo10;have hnb11:=NB3_2.out;have hnc11:=NB2_3.out;obtain ⟨hcz12_0,hfz12_0⟩:=blk1 BK3.out;obtain ⟨hcz13_0,hfz13_0⟩:=blk1 BK2.out))
 refine bodyPost_ret (results_cell_row rfl _ _ gb2 28 #[.slice Ao10 t4.length co10] (0,0) _ rfl (zpw BK2.out) Try.underlying28 rfl (by kernel_rfl)) rfl ?_
 exact ⟨_,za8,by (with_reducible repeat (first|apply Kd.R_alloc|apply Kd.R_drewN|apply Kd.R_drew));exact Kd.R_mono (zfR (Kd.R_far (p:=⟨gb3,0,none⟩) (Kd.R_types (Kd.R_types HO6.out BK3.out (by decide)) BK2.out (by decide)) (fun _ hk=>hk.1.2) (.slice Ao10 t4.length co10))) (fun _ hk=>trivial),za5⟩
def laws_eqProblem.f (k:Nat) (l0_0:List (S46)) (l1_0:List (S46)):Option (Bool):=(laws_eqConstraintS.f k l0_0 l1_0).bind fun t8003=>(if t8003=true then (some true) else (some false))
theorem laws_eqProblem.calls (k:Nat) (A0_0:Option Addr) (c0_0:Nat) (l0_0:List (S46)) (A1_0:Option Addr) (c1_0:Nat) (l1_0:List (S46)) (r:Bool) (w:World) (hr0_0:Kd.C k46 w A0_0 l0_0.length l0_0) (hc0_0:l0_0.length≤c0_0) (hr1_0:Kd.C k46 w A1_0 l1_0.length l1_0) (hc1_0:l1_0.length≤c1_0) (h:laws_eqProblem.f k l0_0 l1_0=some r) :
   Calls Try.prog 8 #[.agg #[.slice A0_0 l0_0.length c0_0],.agg #[.slice A1_0 l1_0.length c1_0]] w fun e w'=>e = .returned (.bool r)∧Below w.heap.size w w':=by
 have hu28:=Try.underlying28
 have HR0_0:=zk hr0_0
 have HC0_0:=zk hc0_0
 clear hr0_0 hc0_0
 have HR1_0:=zk hr1_0
 have HC1_0:=zk hc1_0
 clear hr1_0 hc1_0
 have HB:=zk (Below.refl w.heap.size w)
 have H:=h
 unfold laws_eqProblem.f at H
 clear h
 obtain ⟨t3,A3,H⟩:=zO H
 try dsimp only at H
 by_cases c4:t3=true
 subst c4
 have H1:(some true)=some r:=by rw [if_pos rfl] at H;exact H
 rotate_left
 replace c4:=Bool.eq_false_iff.mpr c4
 subst c4
 have H1:(some false)=some r:=by rw [if_neg zff] at H;exact H
 rotate_left
 all_goals
  clear H
  have H:=H1
  clear H1
  obtain rfl:=zi H
  go_enter Try.func8,Try.ntmps8
  go_wp2_with (first|((with_reducible refine gate_dst (N:=2) rfl ?_);refine zE (cs:=#[.slice A0_0 l0_0.length c0_0]) (t:=28) ?_;intro gb1 hg w11 hbox hb;have BK1:=zk hbox;have GW1:=zk (zs (w:=w) hg za5);have GE1:=GW1;replace HB:=yB HB hb;clear hb hbox hg)|((with_reducible refine gate_dst (N:=3) rfl ?_);refine zE (cs:=#[.slice A1_0 l1_0.length c1_0]) (t:=28) ?_;intro gb2 hg w12 hbox hb;have BK2:=zk hbox;have GW2:=zk (zs (w:=w) hg za5);have GE2:=GW2;have NB1_2:=yn hg BK1;have NB2_1:=yp hg BK1;replace BK1:=yb BK1 hb;replace HB:=yB HB hb;clear hb hbox hg;have hnb13:=NB1_2.out;have hnc13:=NB2_1.out;obtain ⟨hcz14_0,hfz14_0⟩:=blk1 BK1.out;obtain ⟨hcz15_0,hfz15_0⟩:=blk1 BK2.out)|((with_reducible refine gate_callee (f:=20) rfl ?_);refine zg (some 9) Try.func20 #[.slice A0_0 l0_0.length c0_0,.slice A1_0 l1_0.length c1_0] rfl za6 ?_;(with_reducible refine (laws_eqConstraintS.calls k _ _ l0_0 _ _ l1_0 _ _ ?side1 ?side2 ?side3 ?side4 A3.out).mono ?_);(case side1=>repeat (first|exact (Kd.C_below HR0_0.out HB.out)|(with_reducible refine Kd.C_alloc ?_ _)|(with_reducible refine Kd.C_drewN ?_ _)|(with_reducible refine Kd.C_drew ?_)));(case side2=>exact HC0_0.out);(case side3=>repeat (first|exact (Kd.C_below HR1_0.out HB.out)|(with_reducible refine Kd.C_alloc ?_ _)|(with_reducible refine Kd.C_drewN ?_ _)|(with_reducible refine Kd.C_drew ?_)));(case side4=>exact HC1_0.out);rintro e w16 ⟨rfl,hb⟩;refine ⟨_,rfl,?_⟩;replace BK1:=yb BK1 hb;replace BK2:=yb BK2 hb;replace HB:=yB HB hb;(try clear hb)))
  go_ret
  exact ⟨za8,za5⟩
end Go.Proofs.Yteolnmoomeenbaa.A
-- ALSO loop.example/g00582/laws.heldProblem
-- ALSO loop.example/g00582/laws.eqProblem
-- ALSO loop.example/g00582/laws.toProblem
-- ALSO loop.example/g00582/laws.szProblem
-- ALSO loop.example/g00582/spec.WithoutConstraint
-- EXT loop.example/g00582/laws.FnExactWithoutConstraint rounds making
namespace Go.Proofs.Yteolnmoomeenbaa.Ext
open Go Go.RowKit YteolnmoomeenbaaW.PrintWords YteolnmoomeenbaaW.PrintLast YteolnmoomeenbaaW.PrintMore Yteolnmoomeenbaa.A
structure LwA (w : World) (gX gW : Nat) (A0 : Option Addr) (n0 c0 : Nat) (A4 : Option Addr) (c4 : Nat) (wr : List S46) (W : World) : Prop where
 b:Below w.heap.size w W
 x:W.heap[gX]? = some (.cells #[.slice A0 n0 c0] 24 (0,0))
 cw:W.heap[gW]? = some (.cells #[.slice A4 wr.length c4] 28 (0,0))
 rw:Kd.N k46 46 W w.heap.size (fun k=>k < gW) (.slice A4 wr.length c4) wr
 o:gX < gW
 w0:w.heap.size≤gX
 lt:gW < W.heap.size
section
variable {w : World} {gX gW : Nat} {A0 : Option Addr} {n0 c0 : Nat} {A4 : Option Addr} {c4 : Nat} {wr : List S46} {W W1 : World}
theorem LwA.step (h:LwA w gX gW A0 n0 c0 A4 c4 wr W) (hb:Below w.heap.size w W1) (hs:W.heap.size≤W1.heap.size) (hf:∀ k,k≤gW→W1.heap[k]? = W.heap[k]?):LwA w gX gW A0 n0 c0 A4 c4 wr W1 :=
 ⟨hb,(hf gX (Nat.le_of_lt h.o)).trans h.x,(hf gW (Nat.le_refl _)).trans h.cw,Kd.N_step h.rw (fun k hk _=>hf k (Nat.le_of_lt hk)),h.o,h.w0,Nat.lt_of_lt_of_le h.lt hs⟩
theorem LwA.below (h:LwA w gX gW A0 n0 c0 A4 c4 wr W) (hb:Below W.heap.size W W1):LwA w gX gW A0 n0 c0 A4 c4 wr W1 :=
 h.step (below_step h.b hb) hb.size (fun k hk=>hb.block k (Nat.lt_of_le_of_lt hk h.lt))
theorem LwA.marked {lo hi:Nat} (h:LwA w gX gW A0 n0 c0 A4 c4 wr W) (m:Mk lo hi W W1) (hlo:gW < lo):LwA w gX gW A0 n0 c0 A4 c4 wr W1 :=
 h.step (m.lw _ _ (by have:=h.o;have:=h.w0;omega) h.b h.b.size) m.sz (fun k hk=>m.fr k (Nat.lt_of_le_of_lt hk h.lt) (by omega))
theorem LwA.framed {ok:Nat→Prop} (h:LwA w gX gW A0 n0 c0 A4 c4 wr W) (m:Fr ok W W1) (hok:∀ k,ok k→gW < k):LwA w gX gW A0 n0 c0 A4 c4 wr W1 :=
 h.step ⟨m.os.trans h.b.os,m.tape.trans h.b.tape,m.output.trans h.b.output,Nat.le_trans h.b.size m.sz,fun k hk=>(m.fr k (Nat.lt_of_lt_of_le hk h.b.size) (fun e=>by have:=hok k e;have:=h.o;have:=h.w0;omega)).trans (h.b.block k hk)⟩ m.sz (fun k hk=>m.fr k (Nat.lt_of_le_of_lt hk h.lt) (fun e=>by have:=hok k e;omega))
theorem LwA.drew (h:LwA w gX gW A0 n0 c0 A4 c4 wr W):LwA w gX gW A0 n0 c0 A4 c4 wr W.drew:=h.below (below_drew (Below.refl _ _))
theorem LwA.drewN (h:LwA w gX gW A0 n0 c0 A4 c4 wr W) (m:Nat):LwA w gX gW A0 n0 c0 A4 c4 wr (W.drewN m):=h.below (pw_below_drewN (Below.refl _ _) m)
end
structure LwG (w : World) (gW gY gG : Nat) (A8 : Option Addr) (c8 : Nat) (gr : List S46) (W : World) : Prop where
 cg:W.heap[gG]? = some (.cells #[.slice A8 gr.length c8] 28 (0,0))
 rg:Kd.S kCS 46 W w.heap.size (fun k=>gY < k∧k < gG) (.slice A8 gr.length c8) gr
 o:gW < gY
 q:gY < gG
section
variable {w : World} {gW gY gG : Nat} {A8 : Option Addr} {c8 : Nat} {gr gm : List S46} {W W1 : World}
theorem LwG.below (h:LwG w gW gY gG A8 c8 gr W) (hb:Below W.heap.size W W1):LwG w gW gY gG A8 c8 gr W1:=⟨blk_below h.cg hb,Kd.S_below h.rg hb,h.o,h.q⟩
theorem LwG.marked {lo:Nat} (h:LwG w gW gY gG A8 c8 gr W) (m:Mk lo gY W W1):LwG w gW gY gG A8 c8 gr W1 :=
 ⟨(m.fr gG (blk_lt h.cg) (by have:=h.q;omega)).trans h.cg,Kd.S_step h.rg (fun k hk hlt=>m.fr k hlt (by omega)),h.o,h.q⟩
theorem LwG.framed (h:LwG w gW gY gG A8 c8 gr W) (m:Fr (fun k=>gY < k∧k < gG) W W1) (hl:gm.length=gr.length) (hs:Kd.S kCS 46 W1 w.heap.size (fun k=>gY < k∧k < gG) (.slice A8 gr.length c8) gm):LwG w gW gY gG A8 c8 gm W1 :=
 ⟨by rw [hl];exact (m.fr gG (blk_lt h.cg) (by omega)).trans h.cg,by rw [hl];exact hs,h.o,h.q⟩
theorem LwG.drew (h:LwG w gW gY gG A8 c8 gr W):LwG w gW gY gG A8 c8 gr W.drew:=h.below (below_drew (Below.refl _ _))
theorem LwG.drewN (h:LwG w gW gY gG A8 c8 gr W) (m:Nat):LwG w gW gY gG A8 c8 gr (W.drewN m):=h.below (pw_below_drewN (Below.refl _ _) m)
end
structure LwY (gW gY : Nat) (A6 : Option Addr) (c6 : Nat) (ys : List S46) (d : Nat) (W : World) : Prop where
 cy:W.heap[gY]? = some (.cells #[.slice A6 ys.length c6] 28 (0,0))
 sh:ShC (gW+1) gY W (.slice A6 ys.length c6) ys d
theorem LwY.below {gW gY:Nat} {A6:Option Addr} {c6:Nat} {ys:List S46} {d:Nat} {W W1:World} (h:LwY gW gY A6 c6 ys d W) (hb:Below W.heap.size W W1):LwY gW gY A6 c6 ys d W1:=⟨blk_below h.cy hb,h.sh.mk (Mk.below hb)⟩
structure LwS (w : World) (gX gW gY gG : Nat) (A0 : Option Addr) (n0 c0 : Nat) (A4 : Option Addr) (c4 : Nat) (wr : List S46) (A6 : Option Addr) (c6 : Nat) (ys : List S46) (A8 : Option Addr) (c8 : Nat) (gr : List S46) (W : World) : Prop where
 a:LwA w gX gW A0 n0 c0 A4 c4 wr W
 y:LwY gW gY A6 c6 ys (Dm ys) W
 g:LwG w gW gY gG A8 c8 gr W
 r:Kd.R k46 46 W (gW+1) (fun _=>True) (.slice A6 ys.length c6) ys
section
variable {w : World} {gX gW gY gG : Nat} {A0 : Option Addr} {n0 c0 : Nat} {A4 : Option Addr} {c4 : Nat} {wr : List S46} {A6 : Option Addr} {c6 : Nat} {ys : List S46} {A8 : Option Addr} {c8 : Nat} {gr : List S46} {W W1 : World}
theorem LwS.below (h:LwS w gX gW gY gG A0 n0 c0 A4 c4 wr A6 c6 ys A8 c8 gr W) (hb:Below W.heap.size W W1):LwS w gX gW gY gG A0 n0 c0 A4 c4 wr A6 c6 ys A8 c8 gr W1:=⟨h.a.below hb,h.y.below hb,h.g.below hb,Kd.R_below h.r hb⟩
theorem LwS.drew (h:LwS w gX gW gY gG A0 n0 c0 A4 c4 wr A6 c6 ys A8 c8 gr W):LwS w gX gW gY gG A0 n0 c0 A4 c4 wr A6 c6 ys A8 c8 gr W.drew:=h.below (below_drew (Below.refl _ _))
theorem LwS.drewN (h:LwS w gX gW gY gG A0 n0 c0 A4 c4 wr A6 c6 ys A8 c8 gr W) (m:Nat):LwS w gX gW gY gG A0 n0 c0 A4 c4 wr A6 c6 ys A8 c8 gr (W.drewN m):=h.below (pw_below_drewN (Below.refl _ _) m)
end
noncomputable def laws_FnExactWithoutConstraint.f (k : Nat) (l0_0 : List S54) (a1 : Int) : Option Bool :=
 (laws_szProblem.f k l0_0 1048576).bind fun sz=>if sz < 0 then some true else ((laws_toProblem.f k l0_0).bind fun ys=>(spec_WithoutConstraint.f k ys a1).bind fun wr=>(impl_WithoutConstraint.f k ys a1).bind fun gr=>(laws_eqProblem.f k gr.1 wr.1).bind fun e1=>(laws_eqProblem.f k ys ys).bind fun e2=>(laws_markProblem.f ys 1).bind fun mk=>(laws_markProblem.f gr.1 1).bind fun m=>(laws_heldProblem.f k (laws_markProblem.m gr.1 1) 1).bind fun q =>
  if e1=true∧e2=true∧0≤mk∧0≤q∧q=m∧gr.2=wr.2 then some true else none)
theorem laws_FnExactWithoutConstraint.calls (k:Nat) (A0_0:Option Addr) (c0_0:Nat) (l0_0:List S54) (a1:Int) (r:Bool) (w:World) (hr0_0:Kd.C k54 w A0_0 l0_0.length l0_0) (hc0_0:l0_0.length≤c0_0) (h:laws_FnExactWithoutConstraint.f k l0_0 a1=some r) (hr_:r=true) :
  Calls Try.prog 3 #[.agg #[.slice A0_0 l0_0.length c0_0],.int .i64 a1] w fun e w'=>e = .returned (.bool r)∧Below w.heap.size w w':=by
 subst hr_
 have HR:=zk hr0_0
 have HC:=zk hc0_0
 have HB0:=zk (Below.refl w.heap.size w)
 clear hr0_0 hc0_0
 unfold laws_FnExactWithoutConstraint.f at h
 obtain ⟨sz,g0,h⟩:=zo h
 have G0:=zk (fun (W:World) (hB:Below w.heap.size w W)=>laws_szProblem.calls k A0_0 c0_0 l0_0 1048576 sz W (Kd.C_below HR.out hB) HC.out g0)
 have HH:=zk h
 clear g0 h
 go_enter Try.func3,Try.ntmps3
 go_upto_region 3 with (first
  | ((with_reducible refine gate_dst (N:=2) rfl ?_);refine zE (cs:=#[.slice A0_0 l0_0.length c0_0]) (t:=24) ?_;intro gX hgX w1 hbox hb;have X1:=zk hbox;have B1:=zk (below_step HB0.out hb);have GX:=zk (show w.heap.size≤gX by omega);obtain ⟨x0,x1⟩:=blk1 hbox;clear hb hbox hgX)
  | (go_at_call 4;(with_reducible refine (G0.out _ B1.out).mono ?_);rintro e w2 ⟨rfl,hb⟩;have B2:=zk (below_step B1.out hb);have X2:=zk (blk_below X1.out hb);clear hb x0 x1;obtain ⟨x0,x1⟩:=blk1 X2.out))
 have h:=HH.out
 clear HH
 by_cases hs:sz < 0
 ·have hs0:decide (sz < 0)=true:=decide_eq_true hs
  clear h hs
  go_wp2
  go_ret
  exact ⟨za30,B2.out⟩
 ·have hs0:decide (sz < 0)=false:=decide_eq_false hs
  rw [if_neg hs] at h
  clear hs
  obtain ⟨ys,g1,h⟩:=zo h
  obtain ⟨⟨wr_,bb⟩,g2,h⟩:=zo h
  obtain ⟨⟨gr,bb2⟩,g3,h⟩:=zo h
  obtain ⟨e1,g4,h⟩:=zo h
  obtain ⟨e2,g5,h⟩:=zo h
  obtain ⟨mk_,g6,h⟩:=zo h
  obtain ⟨m,g7,h⟩:=zo h
  obtain ⟨q,g8,h⟩:=zo h
  dsimp only at g4 g7 g8 h
  split at h
  ·next hh =>
   obtain ⟨rfl,rfl,hk0,hq0,rfl,rfl⟩:=hh
   have T1:=zk (fun (W:World) (hB:Below w.heap.size w W)=>laws_toProblem.calls k A0_0 c0_0 l0_0 ys W (Kd.C_below HR.out hB) HC.out g1)
   have G2:=zk g2
   have G3:=zk g3
   have G4:=zk g4
   have G5:=zk g5
   have G6:=zk g6
   have G7:=zk g7
   have G8:=zk g8
   have HT:=zk (laws_markProblem.heights ys 1 mk_ g6)
   have r0:decide (mk_ < 0)=false:=decide_eq_false (by omega)
   have q0:decide (q < 0)=false:=decide_eq_false (by omega)
   have q1:(q != q)=false:=by simp
   have q2:decide (q ≠ q)=false:=by simp
   have b1:(bb2 != bb2)=false:=by simp
   clear g1 g2 g3 g4 g5 g6 g7 g8 hk0 hq0 h
   go_upto_region 6 with (first
    | (go_at_call 6;(with_reducible refine (T1.out _ B2.out).mono ?_);rintro e w3 ⟨v3,rfl,hr3,hb⟩;obtain ⟨A3,c3,e3⟩:=Kd.R_slice hr3;subst e3;have R3:=zk hr3;have B3:=zk (below_step B2.out hb);have X3:=zk (blk_below X2.out hb);clear hb hr3 x0 x1;obtain ⟨x0,x1⟩:=blk1 X3.out)
    | (go_at_call 5;(with_reducible refine (spec_WithoutConstraint.calls k _ _ ys a1 wr_ bb2 _ ?s1 ?s2 G2.out).mono ?_);(case s1=>exact (Kd.R_reads' R3.out).2.2);(case s2=>exact (Kd.R_reads' R3.out).2.1);rintro e w4 ⟨v4,rfl,hr4,hb⟩;obtain ⟨A4,c4,e4⟩:=Kd.N_slice hr4;subst e4;have W4:=zk (Kd.N_mono (Kd.N_bound (Kd.N_lower hr4 B3.out.size)) (fun _ hk=>hk.2));have B4:=zk (below_step B3.out hb);have X4:=zk (blk_below X3.out hb);clear hb hr4 x0 x1 R3;obtain ⟨x0,x1⟩:=blk1 X4.out))
   obtain ⟨w5,hw5⟩:∃ w5,w4.alloc (.cells #[.slice A4 wr_.length c4] 28)=w5:=⟨_,rfl⟩
   obtain ⟨gW,hgW⟩:∃ gW,w4.heap.size=gW:=⟨_,rfl⟩
   have hba:Below w4.heap.size w4 w5:=by rw [← hw5];exact below_alloc (Below.refl _ _) _
   have P5:Aside0 (LwA w gX gW A0_0 l0_0.length c0_0 A4 c4 wr_ w5):=⟨⟨below_step B4.out hba,blk_below X4.out hba,by rw [← hw5,← hgW];exact blk_new _ _,by rw [← hgW];exact Kd.N_below W4.out hba,by rw [← hgW];exact blk_lt X4.out,GX.out,by rw [← hgW,← hw5];exact blk_lt (blk_new _ _)⟩⟩
   have L5:Aside0 (gW+1≤w5.heap.size):=⟨P5.out.lt⟩
   rw [hw5,hgW]
   clear hw5 hgW hba x0 x1 X1 X2 X3 X4 W4 B1 B2 B3 B4
   obtain ⟨x0,x1⟩:=blk1 P5.out.x
   obtain ⟨u0,u1⟩:=blk1 P5.out.cw
   go_upto_region 7 with (go_at_call 6;(with_reducible refine (T1.out _ P5.out.b).mono ?_);rintro e w6 ⟨v6,rfl,hr6,hb⟩;obtain ⟨A6,c6,e6⟩:=Kd.R_slice hr6;subst e6;have R6:=zk (Kd.R_lower hr6 L5.out);have P6:=zk (P5.out.below hb);clear hb hr6 x0 x1 u0 u1;obtain ⟨x0,x1⟩:=blk1 P6.out.x;obtain ⟨u0,u1⟩:=blk1 P6.out.cw)
   obtain ⟨w7,hw7⟩:∃ w7,w6.alloc (.cells #[.slice A6 ys.length c6] 28)=w7:=⟨_,rfl⟩
   obtain ⟨gY,hgY⟩:∃ gY,w6.heap.size=gY:=⟨_,rfl⟩
   have hba:Below w6.heap.size w6 w7:=by rw [← hw7];exact below_alloc (Below.refl _ _) _
   have P7:=zk (P6.out.below hba)
   have R7:=zk (Kd.R_below R6.out hba)
   have Y7:Aside0 (LwY gW gY A6 c6 ys (Dm ys) w7):=⟨⟨by rw [← hw7,← hgY];exact blk_new _ _,(ShC_of_R (Nat.le_of_eq hgY) (Dm ys) ys _ _ HT.out R6.out).mk (Mk.below hba)⟩⟩
   have L7:Aside0 (gW < gY∧gY < w7.heap.size):=⟨⟨by rw [← hgY];exact P6.out.lt,blk_lt Y7.out.cy⟩⟩
   rw [hw7,hgY]
   clear hw7 hgY hba x0 x1 u0 u1 P5 P6 R6
   obtain ⟨x0,x1⟩:=blk1 P7.out.x
   obtain ⟨u0,u1⟩:=blk1 P7.out.cw
   obtain ⟨y0,y1⟩:=blk1 Y7.out.cy
   go_upto_region 8 with (go_at_call 7;(with_reducible refine (impl_WithoutConstraint.apart k _ _ ys a1 gr bb2 _ ?s1 ?s2 G3.out).mono ?_);(case s1=>exact (Kd.R_reads' R7.out).2.2);(case s2=>exact (Kd.R_reads' R7.out).2.1);rintro e w8 ⟨v8,rfl,hr8,hb⟩;obtain ⟨A8,c8,e8⟩:=Kd.S_slice hr8;subst e8;have S8:Aside0 (Kd.S kCS 46 w8 w.heap.size (fun k=>gY < k∧k < w8.heap.size) (.slice A8 gr.length c8) gr):=⟨Kd.S_lower (Kd.S_mono (Kd.S_bound hr8) (fun k hk=>⟨Nat.lt_of_lt_of_le L7.out.2 hk.2.1,hk.2.2.1⟩)) P7.out.b.size⟩;have P8:=zk (P7.out.below hb);have R8:=zk (Kd.R_below R7.out hb);have Y8:=zk (Y7.out.below hb);have L8:Aside0 (gY < w8.heap.size):=⟨Nat.lt_of_lt_of_le L7.out.2 hb.size⟩;clear hb hr8 x0 x1 u0 u1 y0 y1;obtain ⟨x0,x1⟩:=blk1 P8.out.x;obtain ⟨u0,u1⟩:=blk1 P8.out.cw;obtain ⟨y0,y1⟩:=blk1 Y8.out.cy)
   obtain ⟨w9,hw9⟩:∃ w9,w8.alloc (.cells #[.slice A8 gr.length c8] 28)=w9:=⟨_,rfl⟩
   obtain ⟨gG,hgG⟩:∃ gG,w8.heap.size=gG:=⟨_,rfl⟩
   have hba:Below w8.heap.size w8 w9:=by rw [← hw9];exact below_alloc (Below.refl _ _) _
   have PC:Aside0 (LwS w gX gW gY gG A0_0 l0_0.length c0_0 A4 c4 wr_ A6 c6 ys A8 c8 gr w9):=⟨⟨P8.out.below hba,Y8.out.below hba,⟨by rw [← hw9,← hgG];exact blk_new _ _,by rw [← hgG];exact Kd.S_below S8.out hba,L7.out.1,by rw [← hgG];exact L8.out⟩,Kd.R_below R8.out hba⟩⟩
   rw [hw9,hgG]
   clear hw9 hgG hba x0 x1 u0 u1 y0 y1 P7 R7 Y7 P8 R8 Y8 S8 L8
   obtain ⟨x0,x1⟩:=blk1 PC.out.a.x
   obtain ⟨u0,u1⟩:=blk1 PC.out.a.cw
   obtain ⟨y0,y1⟩:=blk1 PC.out.y.cy
   obtain ⟨z0,z1⟩:=blk1 PC.out.g.cg
   go_upto_region 10 with (go_at_call 8;(with_reducible refine (laws_eqProblem.calls k _ _ gr _ _ wr_ true _ ?s1 ?s2 ?s3 ?s4 G4.out).mono ?_);(case s1=>exact (Kd.R_reads' (S_cons PC.out.g.rg)).2.2);(case s2=>exact (Kd.R_reads' (S_cons PC.out.g.rg)).2.1);(case s3=>exact (Kd.N_reads' PC.out.a.rw).2.2);(case s4=>exact (Kd.N_reads' PC.out.a.rw).2.1);rintro e w10 ⟨rfl,hb⟩;have n1:=zk (PC.out.below hb);clear hb PC x0 x1 u0 u1 y0 y1 z0 z1;have PC:=n1;clear n1;obtain ⟨x0,x1⟩:=blk1 PC.out.a.x;obtain ⟨u0,u1⟩:=blk1 PC.out.a.cw;obtain ⟨y0,y1⟩:=blk1 PC.out.y.cy;obtain ⟨z0,z1⟩:=blk1 PC.out.g.cg)
   go_region_held3 (fun w'=>w'.cell? ⟨gX,0,none⟩=some (.slice A0_0 l0_0.length c0_0)∧w'.cell? ⟨gY,0,none⟩=some (.slice A6 ys.length c6)) (go_keep) (first
    | (go_at_call 6;(with_reducible refine (T1.out _ (by first|exact PC.out.a.b|exact PC.out.drew.a.b|exact (PC.out.drewN _).a.b)).mono ?_);rintro e w11 ⟨v11,rfl,hr11,hb⟩;obtain ⟨A11,c11,e11⟩:=Kd.R_slice hr11;subst e11;have R11:=zk hr11;have n1:Aside0 (LwS w gX gW gY gG A0_0 l0_0.length c0_0 A4 c4 wr_ A6 c6 ys A8 c8 gr w11):=⟨by first|exact PC.out.below hb|exact PC.out.drew.below hb|exact (PC.out.drewN _).below hb⟩;clear hb hr11 PC x0 x1 u0 u1 y0 y1 z0 z1;have PC:=n1;clear n1;obtain ⟨x0,x1⟩:=blk1 PC.out.a.x;obtain ⟨y0,y1⟩:=blk1 PC.out.y.cy)
    | (go_at_call 8;(with_reducible refine (laws_eqProblem.calls k _ _ ys _ _ ys true _ ?s1 ?s2 ?s3 ?s4 G5.out).mono ?_);(case s1=>first|exact (Kd.R_reads' PC.out.r).2.2|exact (Kd.R_reads' PC.out.drew.r).2.2|exact (Kd.R_reads' (PC.out.drewN _).r).2.2);(case s2=>exact (Kd.R_reads' PC.out.r).2.1);(case s3=>first|exact (Kd.R_reads' R11.out).2.2|exact (Kd.R_reads' (Kd.R_drew R11.out)).2.2|exact (Kd.R_reads' (Kd.R_drewN R11.out _)).2.2);(case s4=>exact (Kd.R_reads' R11.out).2.1);rintro e w12 ⟨rfl,hb⟩;have n1:Aside0 (LwS w gX gW gY gG A0_0 l0_0.length c0_0 A4 c4 wr_ A6 c6 ys A8 c8 gr w12):=⟨by first|exact PC.out.below hb|exact PC.out.drew.below hb|exact (PC.out.drewN _).below hb⟩;clear hb PC R11 x0 x1 y0 y1;have PC:=n1;clear n1;obtain ⟨x0,x1⟩:=blk1 PC.out.a.x;obtain ⟨y0,y1⟩:=blk1 PC.out.y.cy))
   clear x0 x1 y0 y1
   obtain ⟨x0,x1⟩:=blk1 PC.out.a.x
   obtain ⟨u0,u1⟩:=blk1 PC.out.a.cw
   obtain ⟨y0,y1⟩:=blk1 PC.out.y.cy
   obtain ⟨z0,z1⟩:=blk1 PC.out.g.cg
   go_upto_region 14 with (go_at_call 9;(with_reducible refine (laws_markProblem.any (gW+1) gY ys 1 mk_ _ _ (Nat.le_of_lt (blk_lt PC.out.y.cy)) PC.out.y.sh G6.out).mono ?_);rintro e w13 ⟨rfl,hm⟩;have PA:=zk (PC.out.a.marked hm (Nat.lt_succ_self _));have PG:=zk (PC.out.g.marked hm);clear hm x0 x1 u0 u1 y0 y1 z0 z1;obtain ⟨x0,x1⟩:=blk1 PA.out.x;obtain ⟨u0,u1⟩:=blk1 PA.out.cw;obtain ⟨z0,z1⟩:=blk1 PG.out.cg)
   clear PC
   go_upto_region 17 with (go_at_call 8;(with_reducible refine (laws_eqProblem.calls k _ _ gr _ _ wr_ true _ ?s1 ?s2 ?s3 ?s4 G4.out).mono ?_);(case s1=>exact (Kd.R_reads' (S_cons PG.out.rg)).2.2);(case s2=>exact (Kd.R_reads' (S_cons PG.out.rg)).2.1);(case s3=>exact (Kd.N_reads' PA.out.rw).2.2);(case s4=>exact (Kd.N_reads' PA.out.rw).2.1);rintro e w14 ⟨rfl,hb⟩;have PA14:=zk (PA.out.below hb);have PG14:=zk (PG.out.below hb);clear hb x0 x1 u0 u1 z0 z1;obtain ⟨x0,x1⟩:=blk1 PA14.out.x;obtain ⟨u0,u1⟩:=blk1 PA14.out.cw;obtain ⟨z0,z1⟩:=blk1 PG14.out.cg)
   clear PA PG
   have EL:Aside0 ((laws_markProblem.m gr 1).length=gr.length):=⟨laws_markProblem.len gr 1⟩
   go_upto_region 18 with (go_at_call 9;(with_reducible refine (laws_markProblem.apart gr 1 q _ _ w.heap.size (fun k=>gY < k∧k < gG) PG14.out.rg G7.out).mono ?_);rintro e w15 ⟨rfl,hf,hs15⟩;have PA15:=zk (PA14.out.framed hf (fun k hk=>by have:=PG14.out.o;omega));have PG15:=zk (PG14.out.framed hf EL.out hs15);clear hf hs15 x0 x1 u0 u1 z0 z1;obtain ⟨x0,x1⟩:=blk1 PA15.out.x;obtain ⟨u0,u1⟩:=blk1 PA15.out.cw;obtain ⟨z0,z1⟩:=blk1 PG15.out.cg)
   clear PA14 PG14
   generalize laws_markProblem.m gr 1=gm at *
   go_upto_region 24 with (go_at_call 10;(with_reducible refine (laws_heldProblem.calls k _ _ gm 1 q _ ?s1 ?s2 G8.out).mono ?_);(case s1=>exact (Kd.R_reads' (S_cons PG15.out.rg)).2.2);(case s2=>exact (Kd.R_reads' (S_cons PG15.out.rg)).2.1);rintro e w16 ⟨rfl,hb⟩;have PA16:=zk (PA15.out.below hb);have PG16:=zk (PG15.out.below hb);clear hb x0 x1 u0 u1 z0 z1;obtain ⟨x0,x1⟩:=blk1 PA16.out.x;obtain ⟨u0,u1⟩:=blk1 PA16.out.cw;obtain ⟨z0,z1⟩:=blk1 PG16.out.cg)
   clear PA15 PG15
   go_upto_region 25 with (first
    | (go_at_call 6;(with_reducible refine (T1.out _ PA16.out.b).mono ?_);rintro e w17 ⟨v17,rfl,hr17,hb⟩;obtain ⟨A17,c17,e17⟩:=Kd.R_slice hr17;subst e17;have R17:=zk hr17;have PA17:=zk (PA16.out.below hb);have PG17:=zk (PG16.out.below hb);clear hb hr17 x0 x1 u0 u1 z0 z1;obtain ⟨u0,u1⟩:=blk1 PA17.out.cw;obtain ⟨z0,z1⟩:=blk1 PG17.out.cg)
    | (go_at_call 7;(with_reducible refine (impl_WithoutConstraint.calls k _ _ ys a1 gr bb2 _ ?s1 ?s2 G3.out).mono ?_);(case s1=>exact (Kd.R_reads' R17.out).2.2);(case s2=>exact (Kd.R_reads' R17.out).2.1);rintro e w18 ⟨v18,rfl,hr18,hb⟩;obtain ⟨A18,c18,e18⟩:=Kd.R_slice hr18;subst e18;have R18:=zk hr18;have PA18:=zk (PA17.out.below hb);have PG18:=zk (PG17.out.below hb);clear hb hr18 u0 u1 z0 z1;obtain ⟨u0,u1⟩:=blk1 PA18.out.cw;obtain ⟨z0,z1⟩:=blk1 PG18.out.cg))
   obtain ⟨w19,hw19⟩:∃ w19,w18.alloc (.cells #[.slice A18 gr.length c18] 28)=w19:=⟨_,rfl⟩
   obtain ⟨gH,hgH⟩:∃ gH,w18.heap.size=gH:=⟨_,rfl⟩
   have hba:Below w18.heap.size w18 w19:=by rw [← hw19];exact below_alloc (Below.refl _ _) _
   have PA19:=zk (PA18.out.below hba)
   have PG19:=zk (PG18.out.below hba)
   have R19:=zk (Kd.R_below R18.out hba)
   have H19:Aside0 (w19.heap[gH]? = some (.cells #[.slice A18 gr.length c18] 28 (0,0))):=⟨by rw [← hw19,← hgH];exact blk_new _ _⟩
   rw [hw19,hgH]
   clear hw19 hgH hba u0 u1 z0 z1 PA16 PA17 PA18 PG16 PG17 PG18 R17 R18
   obtain ⟨h0,h1⟩:=blk1 H19.out
   obtain ⟨u0,u1⟩:=blk1 PA19.out.cw
   obtain ⟨z0,z1⟩:=blk1 PG19.out.cg
   go_upto_region 28 with (go_at_call 8;(with_reducible refine (laws_eqProblem.calls k _ _ gr _ _ wr_ true _ ?s1 ?s2 ?s3 ?s4 G4.out).mono ?_);(case s1=>exact (Kd.R_reads' R19.out).2.2);(case s2=>exact (Kd.R_reads' R19.out).2.1);(case s3=>exact (Kd.N_reads' PA19.out.rw).2.2);(case s4=>exact (Kd.N_reads' PA19.out.rw).2.1);rintro e w20 ⟨rfl,hb⟩;have PA20:=zk (PA19.out.below hb);have PG20:=zk (PG19.out.below hb);clear hb h0 h1 u0 u1 z0 z1;obtain ⟨z0,z1⟩:=blk1 PG20.out.cg)
   clear PA19 PG19 R19 H19
   go_wp2_with (go_at_call 10;(with_reducible refine (laws_heldProblem.calls k _ _ gm 1 q _ ?s1 ?s2 G8.out).mono ?_);(case s1=>exact (Kd.R_reads' (S_cons PG20.out.rg)).2.2);(case s2=>exact (Kd.R_reads' (S_cons PG20.out.rg)).2.1);rintro e w21 ⟨rfl,hb⟩;have PA21:=zk (PA20.out.below hb);clear hb z0 z1)
   go_ret
   exact ⟨za30,PA21.out.b⟩
  ·cases h
end Go.Proofs.Yteolnmoomeenbaa.Ext
namespace Go.Proofs.Yteolnmoomeenbaa.Br
open Go YteolnmoomeenbaaW.PrintWords
def BrN (P:Program) (n:Nat) (t:TypeId) {α:Type} (d:Kd α) (wf:α→Prop):Prop :=
 ∀ (H:Type) (enc:TypeId × Value→H) (w:World) (base:Nat) (spare:Nat→Bool) (held:Bool) (m:Nat) (cs:List Value) (x:DataW H × List MemPlace),
  m≤n→DataW.trod enc P w base spare held m t cs=some x→∃ a,d.K w a cs∧wf a
def Br (P:Program) (t:TypeId) {α:Type} (d:Kd α) (wf:α→Prop):Prop:=∀ n,BrN P n t d wf
def BF (P:Program) (n:Nat) (fs:List Field) (o:Nat) {α:Type} (d:Kd α) (wf:α→Prop):Prop :=
 ∀ (H:Type) (enc:TypeId × Value→H) (w:World) (base:Nat) (spare:Nat→Bool) (held:Bool) (m:Nat) (cs:List Value) (xs:List (DataW H × List MemPlace)),
  m≤n→cs.length=d.sz→xs.length=fs.length →
  (∀ (i:Nat) (f:Field),fs[i]? = some f→DataW.trod enc P w base spare held m f.type ((cs.drop (f.offset - o)).take (P.cellsOf f.type))=xs[i]?)→∃ a,d.K w a cs∧wf a
theorem BrN.mono {P:Program} {n m:Nat} {t:TypeId} {α:Type} {d:Kd α} {wf:α→Prop} (h:BrN P n t d wf) (hm:m≤n):BrN P m t d wf :=
 fun H enc w base spare held k cs x hk=>h H enc w base spare held k cs x (Nat.le_trans hk hm)
theorem BrN.imp {P:Program} {n:Nat} {t:TypeId} {α:Type} {d:Kd α} {wf wf':α→Prop} (h:BrN P n t d wf) (hi:∀ a,wf a→wf' a):BrN P n t d wf' :=
 fun H enc w base spare held k cs x hk hx=>by
  obtain ⟨a,h1,h2⟩:=h H enc w base spare held k cs x hk hx
  exact ⟨a,h1,hi a h2⟩
theorem BrN.zero (P:Program) (t:TypeId) {α:Type} (d:Kd α) (wf:α→Prop):BrN P 0 t d wf:=by
 intro H enc w base spare held m cs x hm hx
 obtain rfl:m=0:=by omega
 simp [DataW.trod] at hx
theorem br_int {P:Program} {t:TypeId} {k:IntKind} (ht:P.underlying t=some (.int k)) (n:Nat):BrN P n t (Kd.int k) (fun a=>(Lit.int k a).wf=true):=by
 intro H enc w base spare held m cs x _ hx
 obtain ⟨a,rfl,_,hw⟩:=DataW.trod_int ht hx
 exact ⟨a,rfl,hw⟩
theorem br_string {P:Program} {t:TypeId} (ht:P.underlying t=some .string) (n:Nat):BrN P n t Kd.string (fun s=>s.size≤9223372036854775807):=by
 intro H enc w base spare held m cs x _ hx
 obtain ⟨a,rfl,_,hw⟩:=DataW.trod_string ht hx
 exact ⟨a,rfl,by simpa [maxLen] using hw⟩
theorem list_of_all {α:Type} {Q:Nat→α→Prop} (n:Nat) (h:∀ i,i < n→∃ a,Q i a):∃ l:List α,l.length=n∧∀ i a,l[i]? = some a→Q i a:=by
 induction n with
 | zero=>exact ⟨[],rfl,fun i a h=>by simp at h⟩
 | succ n ih =>
  obtain ⟨l,hl,hq⟩:=ih (fun i hi=>h i (by omega))
  obtain ⟨a,ha⟩:=h n (by omega)
  refine ⟨l ++ [a],by simp [hl],fun i b hb=>?_⟩
  rcases Nat.lt_or_ge i l.length with hi|hi
  ·rw [List.getElem?_append_left hi] at hb
   exact hq i b hb
  ·rw [List.getElem?_append_right hi] at hb
   obtain ⟨h0,rfl⟩:i - l.length=0∧a=b:=by
    rcases Nat.eq_zero_or_pos (i - l.length) with h0|h0
    ·rw [h0] at hb;exact ⟨h0,by simpa using hb⟩
    ·rw [List.getElem?_eq_none (by simp;omega)] at hb;simp at hb
   obtain rfl:i=n:=by omega
   exact ha
theorem cells_at {w:World} {base:Nat} {a:Addr} {n:Nat} {cs:List Value} (h:w.cells? base a n=some cs):cs.length=n∧∀ i u,cs[i]? = some u→w.cell? (a.add i)=some u:=by
 unfold World.cells? at h
 split at h
 ·have hl:=mapM_some_length h
  refine ⟨by simpa using hl,fun i u hu=>?_⟩
  have hi:i < n:=by
   have:=(List.getElem?_eq_some_iff.1 hu).1
   simp at hl
   omega
  have:=mapM_some_get h i i (by simp [hi])
  rw [this,hu]
 ·simp at h
theorem br_slice {P:Program} {t e:TypeId} {α:Type} {d:Kd α} {wf:α→Prop} {n:Nat} (ht:P.underlying t=some (.slice e)) (hs:P.cellsOf e=d.sz) (h:BrN P n e d wf) :
  BrN P (n+1) t (Kd.slice e d) (fun l=>l.length≤9223372036854775807∧∀ a ∈ l,wf a):=by
 intro H enc w base spare held m cs x hm hx
 rcases DataW.trod_slice ht hx with ⟨rfl,_⟩|⟨a,len,cap,elems,rest,k,rfl,rfl,_,_,hl,hc,he,hg,_,_⟩
 ·exact ⟨[],⟨none,0,rfl,Nat.le_refl _,Kd.C_nil d w⟩,by simp,by simp⟩
 ·have hq:∀ i,i < len→∃ b,(∃ c,c.length=d.sz∧d.K w b c∧∀ j u,c[j]? = some u→w.cell? (a.add (i * d.sz+j))=some u)∧wf b:=by
   intro i hi
   have g:=hg i hi
   rw [List.getElem?_eq_getElem (by omega)] at g
   obtain ⟨c,hc1,hc2⟩:=Option.bind_eq_some_iff.1 g
   obtain ⟨b,hb,hw⟩:=h H enc w base spare held k c _ (by omega) hc2
   obtain ⟨h1,h2⟩:=cells_at hc1
   refine ⟨b,⟨c,by rw [h1,hs],hb,fun j u hu=>?_⟩,hw⟩
   have:=h2 j u hu
   rw [Addr.add_add,hs] at this
   exact this
  obtain ⟨l,hl1,hl2⟩:=list_of_all len hq
  have hlen:len≤9223372036854775807:=by simp only [maxLen] at hc;omega
  refine ⟨l,⟨some a,cap,by rw [hl1],by omega,rfl,by omega,fun _=>⟨a,rfl,fun j p hp=>(hl2 j p hp).1⟩⟩,by omega,fun b hb=>?_⟩
  obtain ⟨i,hi,rfl⟩:=List.mem_iff_getElem.1 hb
  exact (hl2 i _ (List.getElem?_eq_getElem hi)).2
theorem br_slice' {P:Program} {t e:TypeId} {α:Type} {d:Kd α} {wf:α→Prop} (ht:P.underlying t=some (.slice e)) (hs:P.cellsOf e=d.sz) (h:∀ n,BrN P n e d wf) (n:Nat) :
 BrN P n t (Kd.slice e d) (fun l=>l.length≤9223372036854775807∧∀ a ∈ l,wf a):=(br_slice ht hs (h n)).mono (Nat.le_succ n)
theorem bf_one {P:Program} {n o:Nat} {f:Field} {α:Type} {d:Kd α} {wf:α→Prop} (ho:f.offset=o) (hs:P.cellsOf f.type=d.sz) (h:BrN P n f.type d wf):BF P n [f] o d wf:=by
 intro H enc w base spare held m cs xs hm hl hx hf
 have g:=hf 0 f rfl
 rw [ho,Nat.sub_self,List.drop_zero,hs,← hl,List.take_length,List.getElem?_eq_getElem (by simp at hx;omega)] at g
 exact h H enc w base spare held m cs _ hm g
theorem bf_cons {P:Program} {n o:Nat} {f:Field} {fs:List Field} {α β:Type} {d:Kd α} {d':Kd β} {wf:α→Prop} {wf':β→Prop} (ho:f.offset=o) (hs:P.cellsOf f.type=d.sz) (h:BrN P n f.type d wf)
  (hfs:BF P n fs (o+d.sz) d' wf') (hle:∀ g ∈ fs,o+d.sz≤g.offset):BF P n (f :: fs) o (Kd.pair d d') (fun x=>wf x.1∧wf' x.2):=by
 intro H enc w base spare held m cs xs hm hl hx hf
 have hl':cs.length=d.sz+d'.sz:=hl
 have g:=hf 0 f rfl
 rw [ho,Nat.sub_self,List.drop_zero,hs,List.getElem?_eq_getElem (by simp at hx;omega)] at g
 obtain ⟨a,ha,hwa⟩:=h H enc w base spare held m _ _ hm g
 cases xs with
 | nil=>simp at hx
 | cons y ys =>
  obtain ⟨b,hb,hwb⟩:=hfs H enc w base spare held m (cs.drop d.sz) ys hm (by rw [List.length_drop];omega) (by simpa using hx) (fun i q hq=>by
   have g2:=hf (i+1) q (by simpa using hq)
   have hm:q ∈ fs:=List.mem_of_getElem? hq
   have:=hle q hm
   rw [List.drop_drop,show d.sz+(q.offset - (o+d.sz))=q.offset - o by omega]
   simpa using g2)
  exact ⟨(a,b),⟨cs.take d.sz,cs.drop d.sz,(List.take_append_drop _ _).symm,ha,hb⟩,hwa,hwb⟩
theorem br_struct {P:Program} {t:TypeId} {fs:Array Field} {α:Type} {d:Kd α} {wf:α→Prop} {n:Nat} (ht:P.underlying t=some (.struct fs)) (hs:P.cellsOf t=d.sz) (h:BF P n fs.toList 0 d wf):BrN P (n+1) t d wf:=by
 intro H enc w base spare held m cs x hm hx
 obtain ⟨xs,k,rfl,_,hl,hxs,hf⟩:=DataW.trod_struct ht hx
 exact h H enc w base spare held k cs xs (by omega) (by rw [hl,hs]) (by simpa using hxs) (fun i f hi=>by simpa using hf i f (by simpa using hi))
theorem br_struct' {P:Program} {t:TypeId} {fs:Array Field} {α:Type} {d:Kd α} {wf:α→Prop} (ht:P.underlying t=some (.struct fs)) (hs:P.cellsOf t=d.sz) (h:∀ n,BF P n fs.toList 0 d wf) (n:Nat):BrN P n t d wf :=
 (br_struct ht hs (h n)).mono (Nat.le_succ n)
theorem br_iso {P:Program} {n:Nat} {t:TypeId} {α β:Type} {d:Kd α} {wf:α→Prop} {f:β→α} (g:α→β) (hg:∀ y,f (g y)=y) (h:BrN P n t d wf):BrN P n t (Kd.iso d f) (fun x=>wf (f x)):=by
 intro H enc w base spare held m cs x hm hx
 obtain ⟨a,h1,h2⟩:=h H enc w base spare held m cs x hm hx
 exact ⟨g a,by show d.K w (f (g a)) cs;rw [hg];exact h1,by show wf (f (g a));rw [hg];exact h2⟩
theorem br_fix {P:Program} {t:TypeId} {α:Type} {F:Kd α→Kd α} {sz:Nat} {E:List Nat} {hs:∀ n,(Kd.upto F sz E n).sz=sz} {hE:∀ n q,q ∈ (Kd.upto F sz E n).E→q ∈ E} {wf:Nat→α→Prop}
  (h:∀ n,BrN P n t (Kd.upto F sz E n) (wf n)) (n:Nat):BrN P n t (Kd.fix F sz E hs hE) (fun a=>∃ k,wf k a):=by
 intro H enc w base spare held m cs x hm hx
 obtain ⟨a,h1,h2⟩:=h n H enc w base spare held m cs x hm hx
 exact ⟨a,⟨n,h1⟩,n,h2⟩
theorem arr_of {xs:Array Value} {l:List Value} (h:xs.toList=l):xs=l.toArray:=by rw [← h]
end Go.Proofs.Yteolnmoomeenbaa.Br
namespace Go.Proofs.Yteolnmoomeenbaa.BtFnExactWithoutConstraint
open Go Go.RowKit Yteolnmoomeenbaa.A Yteolnmoomeenbaa.Br YteolnmoomeenbaaW.PrintWords
def wf52N:Nat→S52→Prop
 | 0,_=>False
 | n+1,x=>((Lit.int .i64 x.f0).wf=true)∧((x.f1:ByteArray).size≤9223372036854775807)∧((x.f2:(List S52)).length≤9223372036854775807∧∀ a ∈ x.f2,wf52N n a)
def wf52 (x:S52):Prop:=∃ n,wf52N n x
theorem br52N:∀ n,BrN Try.prog n 52 (Kd.upto F52 3 [52] n) (wf52N n)
 | 0=>BrN.zero _ _ _ _
 | n+1=>by
  have ih:=br52N n
  exact (br_iso (f:=(fun x:S52=>(x.f0,x.f1,x.f2))) (fun y=>⟨y.1,y.2.1,y.2.2⟩) (fun _=>rfl) (br_struct Try.underlying52 (show Try.prog.cellsOf 52=3 by kernel_rfl) (bf_cons rfl (show Try.prog.cellsOf 3=1 by kernel_rfl) (br_int Try.underlying3 n) (bf_cons rfl (show Try.prog.cellsOf 9=1 by kernel_rfl) (br_string Try.underlying9 n) (bf_one rfl (show Try.prog.cellsOf 50=1 by kernel_rfl) ((br_slice Try.underlying50 (show Try.prog.cellsOf 52=(Kd.upto F52 3 [52] n).sz by rw [sz52];kernel_rfl) ih).mono (Nat.le_succ n))) (of_decide_eq_true (by kernel_rfl))) (of_decide_eq_true (by kernel_rfl))))).imp (fun _ h=>h)
theorem br52 (n:Nat):BrN Try.prog n 52 k52 wf52:=br_fix br52N n
def wf54 (x:S54):Prop:=((Lit.int .i64 x.f0).wf=true)∧((x.f1:ByteArray).size≤9223372036854775807)∧((x.f2:ByteArray).size≤9223372036854775807)∧(wf52 x.f3)∧((x.f4:(List Int)).length≤9223372036854775807∧∀ a ∈ x.f4,(Lit.int .i64 a).wf=true)∧((Lit.int .i64 x.f5).wf=true)
theorem br54 (n:Nat):BrN Try.prog n 54 k54 wf54 :=
 (br_iso (f:=(fun x:S54=>(x.f0,x.f1,x.f2,x.f3,x.f4,x.f5))) (fun y=>⟨y.1,y.2.1,y.2.2.1,y.2.2.2.1,y.2.2.2.2.1,y.2.2.2.2.2⟩) (fun _=>rfl) (br_struct' Try.underlying54 (show Try.prog.cellsOf 54=8 by kernel_rfl) (fun n=>(bf_cons rfl (show Try.prog.cellsOf 3=1 by kernel_rfl) (br_int Try.underlying3 n) (bf_cons rfl (show Try.prog.cellsOf 9=1 by kernel_rfl) (br_string Try.underlying9 n) (bf_cons rfl (show Try.prog.cellsOf 9=1 by kernel_rfl) (br_string Try.underlying9 n) (bf_cons rfl (show Try.prog.cellsOf 52=3 by kernel_rfl) (br52 n) (bf_cons rfl (show Try.prog.cellsOf 44=1 by kernel_rfl) (br_slice' Try.underlying44 (show Try.prog.cellsOf 3=1 by kernel_rfl) (fun n=>(br_int Try.underlying3 n)) n) (bf_one rfl (show Try.prog.cellsOf 3=1 by kernel_rfl) (br_int Try.underlying3 n)) (of_decide_eq_true (by kernel_rfl))) (of_decide_eq_true (by kernel_rfl))) (of_decide_eq_true (by kernel_rfl))) (of_decide_eq_true (by kernel_rfl))) (of_decide_eq_true (by kernel_rfl)))) n)).imp (fun _ h=>h)
end Go.Proofs.Yteolnmoomeenbaa.BtFnExactWithoutConstraint
namespace Go.Proofs.Yteolnmoomeenbaa.Pure
open Go Go.RowKit Yteolnmoomeenbaa.Br YteolnmoomeenbaaW.PrintWords YteolnmoomeenbaaW.PrintLast Yteolnmoomeenbaa.A Yteolnmoomeenbaa.Ext Yteolnmoomeenbaa.BtFnExactWithoutConstraint
def FnExactWithoutConstraint.Pure:Prop:=∀ (l0_0:(List S54)) (a1:Int),((l0_0:(List S54)).length≤9223372036854775807∧∀ a ∈ l0_0,wf54 a)→((Lit.int .i64 a1).wf=true)→∃ k,laws_FnExactWithoutConstraint.f k l0_0 a1=some true
end Go.Proofs.Yteolnmoomeenbaa.Pure
namespace Go.Proofs.Yteolnmoomeenbaa.Pl
open Go.RowKit YteolnmoomeenbaaW.PrintWords
def Evt {α:Type} (g:Nat→Option α) (r:α):Prop:=∃ K,∀ k,K≤k→g k=some r
section
variable {α β : Type}
theorem Evt.const {g:Option α} {r:α} (h:g=some r):Evt (fun _=>g) r:=⟨0,fun _ _=>h⟩
theorem Evt.ret (r:α):Evt (fun _=>some r) r:=Evt.const rfl
theorem Evt.bind {g:Nat→Option α} {f:Nat→α→Option β} {a:α} {r:β} (hg:Evt g a) (hf:Evt (fun k=>f k a) r):Evt (fun k=>(g k).bind (f k)) r:=by
 obtain ⟨K,hK⟩:=hg
 obtain ⟨L,hL⟩:=hf
 exact ⟨max K L,fun k hk=>by show (g k).bind (f k)=some r;rw [hK k (by omega)];exact hL k (by omega)⟩
theorem Evt.bindc {g:Option α} {f:Nat→α→Option β} {a:α} {r:β} (hg:g=some a) (hf:Evt (fun k=>f k a) r):Evt (fun k=>g.bind (f k)) r:=Evt.bind (Evt.const hg) hf
theorem Evt.step {g:Nat→Option α} {r:α} (h:Evt (fun k=>g (k+1)) r):Evt g r:=by
 obtain ⟨K,hK⟩:=h
 exact ⟨K+1,fun k hk=>by
  obtain ⟨m,rfl⟩:∃ m,k=m+1:=⟨k - 1,by omega⟩
  exact hK m (by omega)⟩
theorem Evt.pos {c:Prop} [Decidable c] {t e:Nat→Option α} {r:α} (h:c) (ht:Evt t r):Evt (fun k=>if c then t k else e k) r:=by
 obtain ⟨K,hK⟩:=ht
 exact ⟨K,fun k hk=>(if_pos h).trans (hK k hk)⟩
theorem Evt.neg {c:Prop} [Decidable c] {t e:Nat→Option α} {r:α} (h:¬ c) (ht:Evt e r):Evt (fun k=>if c then t k else e k) r:=by
 obtain ⟨K,hK⟩:=ht
 exact ⟨K,fun k hk=>(if_neg h).trans (hK k hk)⟩
theorem Evt.ite {c:Prop} [Decidable c] {t e:Nat→Option α} {x y:α} (ht:c→Evt t x) (he:¬ c→Evt e y):Evt (fun k=>if c then t k else e k) (if c then x else y):=by
 by_cases h:c
 ·rw [if_pos h];exact Evt.pos h (ht h)
 ·rw [if_neg h];exact Evt.neg h (he h)
theorem Evt.get {g:Nat→Option α} {r:α} (h:Evt g r):∃ k,g k=some r:=by
 obtain ⟨K,hK⟩:=h
 exact ⟨K,hK K (Nat.le_refl _)⟩
theorem Evt.cast {g:Nat→Option α} {r r':α} (h:Evt g r) (e:r=r'):Evt g r':=e ▸ h
theorem Evt.up (l:Nat→Int→Option α) (n:Nat) (R:Nat→α) (hend:Evt (fun k=>l k (n:Int)) (R n))
  (hstep:∀ i:Nat,i < n→Evt (fun k=>l k ((i+1:Nat):Int)) (R (i+1))→Evt (fun k=>l k (i:Int)) (R i)):Evt (fun k=>l k 0) (R 0):=by
 have h:∀ d i:Nat,i+d=n→Evt (fun k=>l k (i:Int)) (R i):=by
  intro d
  induction d with
  | zero =>
   intro i hi
   obtain rfl:i=n:=by omega
   exact hend
  | succ d ih =>
   intro i hi
   exact hstep i (by omega) (ih (i+1) (by omega))
 exact h n 0 (by omega)
end
theorem w64 {x:Int} (h : -9223372036854775808≤x) (h':x≤9223372036854775807):wrap64 x=x:=by unfold wrap64;omega
theorem w64s {i:Nat} (h:i < 9223372036854775807):wrap64 ((i:Int)+1)=((i+1:Nat):Int):=by
 rw [w64 (by omega) (by omega)];omega
theorem bt0 (s:ByteArray) (i:Int):0≤bt s i:=(bt_range s i).1
theorem bt255 (s:ByteArray) (i:Int):bt s i≤255:=(bt_range s i).2
theorem bt_get (s:ByteArray) (i:Nat) (h:i < (bytesOf s).length):bt s (i:Int)=(bytesOf s)[i]:=by
 rw [← rd_bytesOf]
 simp [rd,h]
theorem toList_nil_iff (s:ByteArray):s.toList=([]:List UInt8) ↔ s.size=0:=by
 rw [Lib.toList_data,← data_length,List.length_eq_zero_iff]
def ltI (c:Int):Int:=if 97=c then 0 else if 98=c then 1 else if 99=c then 2 else -1
def varI (c:Int):Int:=if 88=c then 0 else if 89=c then 1 else if 90=c then 2 else -1
def isVr (c:Int):Bool:=decide (88≤c∧c≤90)
theorem ix_abc:∀ n:Nat,n < 256→Lib.indexByte [97,98,99] n.toUInt8=ltI (n:Int):=by decide +kernel
theorem ix_XYZ:∀ n:Nat,n < 256→Lib.indexByte [88,89,90] n.toUInt8=varI (n:Int):=by decide +kernel
theorem varI_isVar (c:Int):decide (varI c ≥ 0)=isVr c:=by
 unfold varI isVr
 split
 ·subst_vars;rfl
 ·split
  ·subst_vars;rfl
  ·split
   ·subst_vars;rfl
   ·simp;omega
theorem bt_abc0:bt (⟨#[97,98,99]⟩:ByteArray) 0=97:=by decide
theorem bt_abc1:bt (⟨#[97,98,99]⟩:ByteArray) 1=98:=by decide
theorem bt_abc2:bt (⟨#[97,98,99]⟩:ByteArray) 2=99:=by decide
theorem w64_a:wrap64 1=1:=by unfold wrap64;omega
theorem w64_b:wrap64 2=2:=by unfold wrap64;omega
theorem w64_c:wrap64 3=3:=by unfold wrap64;omega
theorem w64_sub {a:Int} {n:Nat} (ha : -1≤a) (ha':a≤1048576) (hn:n≤9223372036854775807):wrap64 (a - (n:Int))=a - (n:Int):=w64 (by omega) (by omega)
end Go.Proofs.Yteolnmoomeenbaa.Pl
namespace Go.Proofs.Yteolnmoomeenbaa.F
open Go.RowKit YteolnmoomeenbaaW.PrintWords Yteolnmoomeenbaa.Pl Yteolnmoomeenbaa.A Yteolnmoomeenbaa.Ext
def Evt2 {α:Type} (g:Nat→Nat→Option α) (r:α):Prop:=∃ K,∀ i j,K≤i→K≤j→g i j=some r
theorem Evt2.ret {α:Type} (r:α):Evt2 (fun _ _=>some r) r:=⟨0,fun _ _ _ _=>rfl⟩
theorem Evt2.bind {α β:Type} {g:Nat→Option α} {f:Nat→Nat→α→Option β} {a:α} {r:β} (hg:Evt g a) (hf:Evt2 (fun i j=>f i j a) r):Evt2 (fun i j=>(g i).bind (f i j)) r:=by
 obtain ⟨K,hK⟩:=hg
 obtain ⟨L,hL⟩:=hf
 exact ⟨max K L,fun i j hi hj=>by show (g i).bind (f i j)=some r;rw [hK i (by omega)];exact hL i j (by omega) (by omega)⟩
theorem Evt2.bind2 {α β:Type} {g:Nat→Nat→Option α} {f:Nat→Nat→α→Option β} {a:α} {r:β} (hg:Evt2 g a) (hf:Evt2 (fun i j=>f i j a) r):Evt2 (fun i j=>(g i j).bind (f i j)) r:=by
 obtain ⟨K,hK⟩:=hg
 obtain ⟨L,hL⟩:=hf
 exact ⟨max K L,fun i j hi hj=>by show (g i j).bind (f i j)=some r;rw [hK i j (by omega) (by omega)];exact hL i j (by omega) (by omega)⟩
theorem Evt2.pos {α:Type} {c:Prop} [Decidable c] {t e:Nat→Nat→Option α} {r:α} (h:c) (ht:Evt2 t r):Evt2 (fun i j=>if c then t i j else e i j) r:=by
 obtain ⟨K,hK⟩:=ht
 exact ⟨K,fun i j hi hj=>by show (if c then t i j else e i j)=some r;rw [if_pos h];exact hK i j hi hj⟩
theorem Evt2.neg {α:Type} {c:Prop} [Decidable c] {t e:Nat→Nat→Option α} {r:α} (h:¬ c) (he:Evt2 e r):Evt2 (fun i j=>if c then t i j else e i j) r:=by
 obtain ⟨K,hK⟩:=he
 exact ⟨K,fun i j hi hj=>by show (if c then t i j else e i j)=some r;rw [if_neg h];exact hK i j hi hj⟩
theorem Evt2.step {α:Type} {g:Nat→Nat→Option α} {r:α} (h:Evt2 (fun i j=>g i (j+1)) r):Evt2 g r:=by
 obtain ⟨K,hK⟩:=h
 refine ⟨K+1,fun i j hi hj=>?_⟩
 obtain ⟨j,rfl⟩:∃ m,j=m+1:=⟨j - 1,by omega⟩
 exact hK i j (by omega) (by omega)
theorem Evt2.diag {α:Type} {g:Nat→Nat→Option α} {r:α} (h:Evt2 g r):Evt (fun k=>g k k) r:=by
 obtain ⟨K,hK⟩:=h
 exact ⟨K,fun k hk=>hK k k hk hk⟩
theorem Evt2.cast {α:Type} {g:Nat→Nat→Option α} {r r':α} (h:Evt2 g r) (e:r=r'):Evt2 g r':=e ▸ h
def RxOk:Nat→S52→Prop
 | 0,_=>False
 | n+1,x=>x.f1.size≤9223372036854775807∧x.f2.length≤9223372036854775807∧∀ a ∈ x.f2,RxOk n a
def cntN:Nat→List S43→Nat
 | 0,_=>0
 | d+1,xs=>(xs.map fun y=>2+cntN d y.f2).sum
def htN:Nat→S43→Bool
 | 0,_=>false
 | d+1,x=>x.f2.all (htN d)
def Bd (l:List S43) (c:Nat):Prop:=(∀ d,cntN d l≤2 * c)∧∃ N,∀ d,N≤d→l.all (htN d)=true
inductive Sm : S43 → Prop
 | mk (a:Int) (b:ByteArray) (l:List S43) (h:l.length≤1048576) (hs:∀ x ∈ l,Sm x) (hb:∃ c,c≤1048576∧Bd l c):Sm ⟨a,b,l⟩
theorem Sm.bd {x:S43} (h:Sm x):∃ c,c≤1048576∧Bd x.f2 c:=by cases h;assumption
theorem Sm.len {x:S43} (h:Sm x):x.f2.length≤1048576:=by cases h;assumption
theorem rxL_at (l:List S52) (i:Nat) (h:i < l.length):rd_T52 l (i:Int)=l[i]:=by simp [rd_T52,h]
theorem rxI_at (l:List S43) (i:Nat) (h:i < l.length):rd_T43 l (i:Int)=l[i]:=by simp [rd_T43,h]
theorem rx_eta (y:S43):(⟨y.f0,y.f1,y.f2⟩:S43)=y:=by cases y;rfl
def Cp (x:S52) (y:S43):Prop:=Sm y∧Evt (fun k=>laws_toRegex.f k x.f0 x.f1 x.f2) (y.f0,y.f1,y.f2)
def CpN (c:Nat) (x:S52) (y:S43):Prop:=Cp x y∧Bd y.f2 c
def LN (l:List S52) (c:Nat):Prop:=∃ ys:List S43,ys.length=l.length∧(∀ (i:Nat) (h:i < l.length) (h':i < ys.length),Cp l[i] ys[i])∧Bd ys c
theorem LN_nil:LN [] 0:=⟨[],rfl,fun i h=>absurd h (by simp),fun d=>by cases d <;> simp [cntN],0,fun _ _=>rfl⟩
theorem LN_cons {x:S52} {l:List S52} {c c':Nat} (h:∃ y,CpN c x y) (h':LN l c'):LN (x :: l) (1+c+c'):=by
 obtain ⟨y,hy,b1,N1,n1⟩:=h
 obtain ⟨ys,e,hc,b2,N2,n2⟩:=h'
 refine ⟨y :: ys,by simp [e],fun i hi hi' => ?_,fun d=>?_,max (N1+1) N2,fun d hd=>?_⟩
 ·cases i with
  | zero=>exact hy
  | succ i=>exact hc i (by simpa using hi) (by simpa using hi')
 ·cases d with
  | zero=>simp [cntN]
  | succ d =>
   have h1:=b1 d
   have h2:=b2 (d+1)
   simp only [cntN,List.map_cons,List.sum_cons] at h2 ⊢
   omega
 ·obtain ⟨d',rfl⟩:∃ d',d=d'+1:=⟨d - 1,by omega⟩
  rw [List.all_cons,n2 (d'+1) (by omega),Bool.and_true]
  exact n1 d' (by omega)
theorem toRegex_ev (a:Int) (b:ByteArray) (l:List S52) (hl:l.length≤1048576) (c:Nat) (hcc:c≤1048576) (h:LN l c):∃ y,CpN c ⟨a,b,l⟩ y:=by
 obtain ⟨ys,e,hc,hbd⟩:=h
 refine ⟨⟨a,b,ys⟩,⟨Sm.mk a b ys (by omega) (fun y hy=>?_) ⟨c,hcc,hbd⟩,?_⟩,hbd⟩
 ·obtain ⟨i,hi,rfl⟩:=List.mem_iff_getElem.1 hy
  exact (hc i (by omega) hi).1
 ·refine Evt.step ?_
  simp only [laws_toRegex.f]
  refine Evt2.diag (g:=fun i j=>laws_toRegexG.f (fun _=>laws_toRegex.f i) j a b l) ?_
  simp only [laws_toRegexG.f,laws_toRegexSG.f]
  refine Evt2.bind2 (a:=ys) (Evt2.pos (by omega) (Evt2.pos (by omega) ?_)) (Evt2.ret _)
  rw [Int.toNat_natCast]
  have hh:∀ d i:Nat,i+d=l.length→Evt2 (fun p q=>laws_toRegexSG.l0 (fun _=>laws_toRegex.f p) q l (ys.take i ++ List.replicate (l.length - i) z43) (i:Int)) ys:=by
   intro d
   induction d with
   | zero =>
    intro i hi
    refine Evt2.step ?_
    simp only [laws_toRegexSG.l0]
    refine Evt2.neg (by omega) ((Evt2.ret _).cast ?_)
    rw [show l.length - i=0 by omega,List.take_of_length_le (by omega)]
    simp
   | succ d ih =>
    intro i hi
    have hi':i < l.length:=by omega
    refine Evt2.step ?_
    simp only [laws_toRegexSG.l0]
    rw [rxL_at l i hi']
    refine Evt2.pos (by omega) (Evt2.pos (by omega) (Evt2.bind (hc i hi' (by omega)).2 (Evt2.pos (by simp;omega) ?_)))
    rw [Int.toNat_natCast,w64s (by omega)]
    have hx:(ys.take i).length=i:=by rw [List.length_take];omega
    have e2:(ys.take i ++ List.replicate (l.length - i) z43).set i (ys[i]'(by omega))=ys.take (i+1) ++ List.replicate (l.length - (i+1)) z43:=by
     rw [List.set_append_right _ _ (by omega),hx,Nat.sub_self,show l.length - i=(l.length - (i+1))+1 by omega,List.replicate_succ,zu,List.take_succ_eq_append_getElem (by omega),List.append_assoc]
     rfl
    simp only [rx_eta,e2]
    exact ih (i+1) (by omega)
  simpa using hh l.length 0 (by omega)
theorem szRegex_evN:∀ n (x:S52),RxOk n x→∀ v:Int,0≤v→v≤1048576→∃ t,Evt (fun k=>laws_szRegex.f k x.f0 x.f1 x.f2 v) t∧(t = -1∨(0≤t∧t≤v∧∃ (c:Nat) (y:S43),(c:Int)≤v - t∧CpN c x y)):=by
 intro n
 induction n with
 | zero=>intro x h;exact h.elim
 | succ n ih =>
  rintro ⟨a,b,l⟩ ⟨h1,h2,h3⟩ v hv hv'
  simp only at h1 h2 h3
  have hs:∃ t,Evt2 (fun i j=>laws_szRegexG.f (fun _=>laws_szRegex.f i) j a b l v) t∧(t = -1∨(0≤t∧t≤v∧∃ (c:Nat) (y:S43),(c:Int)≤v - t∧CpN c ⟨a,b,l⟩ y)):=by
   simp only [laws_szRegexG.f,laws_szRegexSG.f]
   rw [w64_sub (by omega) (by omega) h1]
   by_cases c1:v - b.size < 0
   ·exact ⟨-1,Evt2.pos c1 (Evt2.ret _),.inl rfl⟩
   rw [w64_sub (by omega) (by omega) h2]
   by_cases c2:v - b.size - l.length < 0
   ·exact ⟨-1,Evt2.neg c1 (Evt2.bind2 (Evt2.pos c2 (Evt2.ret _)) (Evt2.pos (by decide) (Evt2.ret _))),.inl rfl⟩
   have hh:∀ d i:Nat,i+d=l.length→∀ u:Int,0≤u→u≤1048576→∃ t,Evt2 (fun p q=>laws_szRegexSG.l0 (fun _=>laws_szRegex.f p) q l u (i:Int)) t∧(t = -1∨(0≤t∧t≤u∧∃ c:Nat,LN (l.drop i) c∧(c:Int)≤u - t+(l.length - i))):=by
    intro d
    induction d with
    | zero =>
     intro i hi u hu hu'
     refine ⟨u,Evt2.step ?_,.inr ⟨hu,Int.le_refl _,?_⟩⟩
     ·simp only [laws_szRegexSG.l0]
      exact Evt2.neg (by omega) (Evt2.ret _)
     ·rw [List.drop_of_length_le (by omega)]
      exact ⟨0,LN_nil,by omega⟩
    | succ d ihd =>
     intro i hi u hu hu'
     have hi':i < l.length:=by omega
     obtain ⟨t,ht,hc⟩:=ih l[i] (h3 _ (List.getElem_mem hi')) u hu hu'
     by_cases c3:t < 0
     ·refine ⟨-1,Evt2.step ?_,.inl rfl⟩
      simp only [laws_szRegexSG.l0]
      rw [rxL_at l i hi']
      exact Evt2.pos (by omega) (Evt2.pos (by omega) (Evt2.bind ht (Evt2.pos c3 (Evt2.ret _))))
     ·have hc':=hc.resolve_left (by omega)
      obtain ⟨t',ht',hc2⟩:=ihd (i+1) (by omega) t (by omega) (by omega)
      refine ⟨t',Evt2.step ?_,?_⟩
      ·simp only [laws_szRegexSG.l0]
       rw [rxL_at l i hi',w64s (by omega)]
       exact Evt2.pos (by omega) (Evt2.pos (by omega) (Evt2.bind ht (Evt2.neg c3 ht')))
      ·rcases hc2 with h4|⟨h4,h5,c2,h6,h7⟩
       ·exact .inl h4
       ·obtain ⟨_,_,c1',y,hy1,hy2⟩:=hc'
        refine .inr ⟨h4,by omega,1+c1'+c2,?_,by omega⟩
        rw [List.drop_eq_getElem_cons hi']
        exact LN_cons ⟨y,hy2⟩ h6
   obtain ⟨t,ht,hc⟩:=hh l.length 0 (by omega) (v - b.size - l.length) (by omega) (by omega)
   by_cases c4:t < 0
   ·exact ⟨-1,Evt2.neg c1 (Evt2.bind2 (Evt2.neg c2 ht) (Evt2.pos c4 (Evt2.ret _))),.inl rfl⟩
   ·obtain ⟨k1,k2,c5,k3,k4⟩:=hc.resolve_left (by omega)
    obtain ⟨y,hy⟩:=toRegex_ev a b l (by omega) c5 (by omega) (by simpa using k3)
    exact ⟨t,Evt2.neg c1 (Evt2.bind2 (Evt2.neg c2 ht) (Evt2.neg c4 (Evt2.ret _))),.inr ⟨k1,by omega,c5,y,by omega,hy⟩⟩
  obtain ⟨t,ht,hc⟩:=hs
  refine ⟨t,Evt.step ?_,hc⟩
  simp only [laws_szRegex.f]
  exact Evt2.diag ht
theorem szRegex_ev (n:Nat) (x:S52) (h:RxOk n x) (v:Int) (hv:0≤v) (hv':v≤1048576):∃ t,Evt (fun k=>laws_szRegex.f k x.f0 x.f1 x.f2 v) t∧(t = -1∨(0≤t∧t≤v∧∃ y,Cp x y)):=by
 obtain ⟨t,h1,h2⟩:=szRegex_evN n x h v hv hv'
 exact ⟨t,h1,h2.imp id fun ⟨h3,h4,_,y,_,h5⟩=>⟨h3,h4,y,h5.1⟩⟩
theorem eqRegex_ev (x:S43) (h:Sm x):Evt (fun k=>laws_eqRegex.f k x.f0 x.f1 x.f2 x.f0 x.f1 x.f2) true:=by
 induction h with
 | mk a b l hl hs _ ih =>
  refine Evt.step ?_
  simp only [laws_eqRegex.f]
  refine Evt2.diag (g:=fun i j=>laws_eqRegexG.f (fun _=>laws_eqRegex.f i) j a b l a b l) ?_
  simp only [laws_eqRegexG.f,laws_eqRegexSG.f]
  refine Evt2.pos trivial (Evt2.pos trivial (Evt2.bind2 (a:=true) (Evt2.pos trivial ?_) (Evt2.pos rfl (Evt2.ret _))))
  have hh:∀ d i:Nat,i+d=l.length→Evt2 (fun p q=>laws_eqRegexSG.l0 (fun _=>laws_eqRegex.f p) q l l (i:Int)) true:=by
   intro d
   induction d with
   | zero =>
    intro i hi
    refine Evt2.step ?_
    simp only [laws_eqRegexSG.l0]
    exact Evt2.neg (by omega) (Evt2.ret _)
   | succ d ihd =>
    intro i hi
    have hi':i < l.length:=by omega
    refine Evt2.step ?_
    simp only [laws_eqRegexSG.l0]
    rw [rxI_at l i hi',w64s (by omega)]
    exact Evt2.pos (by omega) (Evt2.pos (by omega) (Evt2.pos (by omega) (Evt2.bind (ih _ (List.getElem_mem hi')) (Evt2.pos rfl (ihd (i+1) (by omega))))))
  exact hh l.length 0 (by omega)
end Go.Proofs.Yteolnmoomeenbaa.F
namespace Go.Proofs.Yteolnmoomeenbaa.F
open Go.RowKit YteolnmoomeenbaaW.PrintWords Yteolnmoomeenbaa.Pl Yteolnmoomeenbaa.A
theorem szIntS_eq (l:List Int) (a:Int) (ha : -1≤a) (ha':a≤1048576) (hl:l.length≤9223372036854775807) :
  ∃ t,laws_szIntS.f l a=some t∧(t = -1∨(0≤t∧t=a - l.length)):=by
 unfold laws_szIntS.f
 rw [w64_sub ha ha' hl]
 by_cases h1:a - l.length < 0
 ·exact ⟨-1,by rw [if_pos h1],.inl rfl⟩
 ·rw [if_neg h1];exact ⟨_,rfl,.inr ⟨by omega,rfl⟩⟩
theorem set_next (l:List Int) (i n:Nat) (hn:l.length=n) (hi:i < n):(l.take i ++ List.replicate (n - i) 0).set i (rd l (i:Int))=l.take (i+1) ++ List.replicate (n - (i+1)) 0:=by
 have hl:(l.take i).length=i:=by rw [List.length_take];omega
 have e:rd l (i:Int)=l[i]:=by simp [rd,show i < l.length by omega]
 rw [List.set_append_right _ _ (by omega),hl,Nat.sub_self,show n - i=(n - (i+1))+1 by omega,List.replicate_succ,zu,List.take_succ_eq_append_getElem (by omega),e,List.append_assoc]
 rfl
theorem toIntS_ev (l:List Int) (hl:l.length≤35184372088832):Evt (fun k=>laws_toIntS.f k l) l:=by
 simp only [laws_toIntS.f]
 refine Evt.pos (by omega) (Evt.pos (by omega) ?_)
 rw [Int.toNat_natCast]
 have h:∀ d i:Nat,i+d=l.length→Evt (fun k=>laws_toIntS.l0 k l (l.take i ++ List.replicate (l.length - i) 0) (i:Int)) l:=by
  intro d
  induction d with
  | zero =>
   intro i hi
   refine Evt.step ?_
   simp only [laws_toIntS.l0]
   refine Evt.neg (by omega) (Evt.const ?_)
   obtain rfl:i=l.length:=by omega
   simp
  | succ d ih =>
   intro i hi
   refine Evt.step ?_
   simp only [laws_toIntS.l0]
   rw [w64s (by omega),Int.toNat_natCast,set_next l i l.length rfl (by omega)]
   exact Evt.pos (by omega) (Evt.pos (by omega) (Evt.pos (by simp;omega) (ih (i+1) (by omega))))
 simpa using h l.length 0 (by omega)
theorem eqIntS_ev (l l':List Int) (hl:l.length≤9223372036854775807):Evt (fun k=>laws_eqIntS.f k l l') (decide (l=l')):=by
 simp only [laws_eqIntS.f]
 by_cases he:l.length=l'.length
 ·refine Evt.pos (by omega) ?_
  have h:=Evt.up (fun k i=>laws_eqIntS.l0 k l l' i) l.length (fun i=>decide (l.drop i=l'.drop i)) ?_ ?_
  ·simpa using h
  ·refine Evt.step ?_
   simp only [laws_eqIntS.l0]
   refine Evt.neg (by omega) (Evt.const ?_)
   rw [List.drop_of_length_le (Nat.le_refl _),List.drop_of_length_le (by omega)]
   rfl
  ·intro i hi h
   refine Evt.step ?_
   simp only [laws_eqIntS.l0]
   have hi':i < l'.length:=by omega
   refine Evt.pos (by omega) (Evt.pos (by omega) (Evt.pos (by omega) ?_))
   rw [List.drop_eq_getElem_cons hi,List.drop_eq_getElem_cons hi',w64s (by omega)]
   have e1:rd l (i:Int)=l[i]:=by simp [rd,hi]
   have e2:rd l' (i:Int)=l'[i]:=by simp [rd,hi']
   rw [e1,e2]
   by_cases hc:l[i]=l'[i]
   ·exact Evt.pos hc (h.cast (by rw [hc];simp only [List.cons.injEq,true_and]))
   ·exact Evt.neg hc (Evt.const (by rw [decide_eq_false (fun e=>hc (List.cons.inj e).1)]))
 ·refine Evt.neg (by omega) (Evt.const ?_)
  have:l ≠ l':=fun e=>he (by rw [e])
  simp [this]
end Go.Proofs.Yteolnmoomeenbaa.F
namespace Go.Proofs.Yteolnmoomeenbaa.F
open Go.RowKit YteolnmoomeenbaaW.PrintWords Yteolnmoomeenbaa.Pl Yteolnmoomeenbaa.A Yteolnmoomeenbaa.Ext
def CpC (a:Int) (b c:ByteArray) (d:Int) (e:ByteArray) (l:List S52) (m:List Int) (n:Int) (y:List S43):Prop :=
 Sm ⟨d,e,y⟩∧m.length≤1048576∧Evt (fun k=>laws_toConstraint.f k a b c d e l m n) (a,b,c,d,e,y,m,n)
theorem szConstraint_ev (a:Int) (b c:ByteArray) (d:Int) (e:ByteArray) (l:List S52) (m:List Int) (n:Int) (N:Nat) (v:Int) (hv:0≤v) (hv':v≤1048576) (hb:b.size≤9223372036854775807) (hc:c.size≤9223372036854775807) (hr:RxOk N ⟨d,e,l⟩) (hm:m.length≤9223372036854775807) :
  ∃ t,Evt (fun k=>laws_szConstraint.f k a b c d e l m n v) t∧(t = -1∨(0≤t∧t≤v∧∃ y,CpC a b c d e l m n y)):=by
 simp only [laws_szConstraint.f]
 rw [w64_sub (by omega) (by omega) hb]
 by_cases c1:v - b.size < 0
 ·exact ⟨-1,Evt.pos c1 (Evt.ret _),.inl rfl⟩
 rw [w64_sub (by omega) (by omega) hc]
 by_cases c2:v - b.size - c.size < 0
 ·exact ⟨-1,Evt.neg c1 (Evt.pos c2 (Evt.ret _)),.inl rfl⟩
 obtain ⟨t,ht,h1⟩:=szRegex_ev N ⟨d,e,l⟩ hr (v - b.size - c.size) (by omega) (by omega)
 simp only at ht
 rcases h1 with rfl|⟨h1,h2,h3⟩
 ·exact ⟨-1,Evt.neg c1 (Evt.neg c2 (Evt.bind ht (Evt.pos (by decide) (Evt.ret _)))),.inl rfl⟩
 obtain ⟨u,hu,h4⟩:=szIntS_eq m t (by omega) (by omega) hm
 rcases h4 with rfl|⟨h4,h5⟩
 ·exact ⟨-1,Evt.neg c1 (Evt.neg c2 (Evt.bind ht (Evt.neg (by omega) (Evt.bindc hu (Evt.pos (by decide) (Evt.ret _)))))),.inl rfl⟩
 refine ⟨u,Evt.neg c1 (Evt.neg c2 (Evt.bind ht (Evt.neg (by omega) (Evt.bindc hu (Evt.neg (by omega) (Evt.ret _)))))),.inr ⟨h4,by omega,?_⟩⟩
 obtain ⟨⟨d',e',y⟩,hs,he⟩:=h3
 simp only at he
 have hde:d'=d∧e'=e:=by
  obtain ⟨K,hK⟩:=he
  have h6:=hK (K+1) (by omega)
  simp only [laws_toRegex.f,laws_toRegexG.f] at h6
  obtain ⟨z,_,h7⟩:=zo h6
  simp only [Option.some.injEq,Prod.mk.injEq] at h7
  exact ⟨h7.1.symm,h7.2.1.symm⟩
 obtain ⟨rfl,rfl⟩:=hde
 refine ⟨y,hs,by omega,?_⟩
 simp only [laws_toConstraint.f]
 exact Evt.bind he (Evt.bind (toIntS_ev m (by omega)) (Evt.ret _))
theorem eqConstraint_ev (a:Int) (b c:ByteArray) (d:Int) (e:ByteArray) (y:List S43) (m:List Int) (n:Int) (hy:Sm ⟨d,e,y⟩) (hm:m.length≤1048576):Evt (fun k=>laws_eqConstraint.f k a b c d e y m n a b c d e y m n) true:=by
 simp only [laws_eqConstraint.f]
 exact Evt.pos trivial (Evt.pos trivial (Evt.pos trivial (Evt.bind (eqRegex_ev _ hy) (Evt.pos rfl (Evt.bind (eqIntS_ev m m (by omega)) (Evt.pos (by simp) (Evt.pos trivial (Evt.ret _))))))))
theorem csL_at (l:List S54) (i:Nat) (h:i < l.length):rd_T54 l (i:Int)=l[i]:=by simp [rd_T54,h]
theorem csI_at (l:List S46) (i:Nat) (h:i < l.length):rd_T46 l (i:Int)=l[i]:=by simp [rd_T46,h]
theorem rxL_eta (y:S52):(⟨y.f0,y.f1,y.f2⟩:S52)=y:=by cases y;rfl
def CsOk (x:S54):Prop:=x.f1.size≤9223372036854775807∧x.f2.size≤9223372036854775807∧(∃ n,RxOk n x.f3)∧x.f4.length≤9223372036854775807
def CsSm (y:S46):Prop:=Sm y.f3∧y.f4.length≤1048576∧y.f1.size≤1048576∧y.f2.size≤1048576
def CpK (x:S54) (y:S46):Prop:=CsSm y∧Evt (fun k=>laws_toConstraint.f k x.f0 x.f1 x.f2 x.f3.f0 x.f3.f1 x.f3.f2 x.f4 x.f5) (y.f0,y.f1,y.f2,y.f3.f0,y.f3.f1,y.f3.f2,y.f4,y.f5)
theorem csI_eta (y:S46):(⟨y.f0,y.f1,y.f2,(⟨y.f3.f0,y.f3.f1,y.f3.f2⟩:S43),y.f4,y.f5⟩:S46)=y:=by
 have h:=rx_eta y.f3
 rw [h]
theorem szCs_ev (x:S54) (h:CsOk x) (v:Int) (hv:0≤v) (hv':v≤1048576):∃ t,Evt (fun k=>laws_szConstraint.f k x.f0 x.f1 x.f2 x.f3.f0 x.f3.f1 x.f3.f2 x.f4 x.f5 v) t∧(t = -1∨(0≤t∧t≤v∧∃ y,CpK x y)):=by
 obtain ⟨h1,h2,⟨N,h3⟩,h4⟩:=h
 by_cases c1:v - x.f1.size < 0
 ·refine ⟨-1,?_,.inl rfl⟩
  simp only [laws_szConstraint.f]
  rw [w64_sub (by omega) (by omega) h1]
  exact Evt.pos c1 (Evt.ret _)
 by_cases c2:v - x.f1.size - x.f2.size < 0
 ·refine ⟨-1,?_,.inl rfl⟩
  simp only [laws_szConstraint.f]
  rw [w64_sub (by omega) (by omega) h1,w64_sub (by omega) (by omega) h2]
  exact Evt.neg c1 (Evt.pos c2 (Evt.ret _))
 obtain ⟨t,ht,hc⟩:=szConstraint_ev x.f0 x.f1 x.f2 x.f3.f0 x.f3.f1 x.f3.f2 x.f4 x.f5 N v hv hv' h1 h2 (by rw [rxL_eta];exact h3) h4
 refine ⟨t,ht,hc.imp id ?_⟩
 rintro ⟨g1,g2,y,y1,y2,y3⟩
 exact ⟨g1,g2,⟨x.f0,x.f1,x.f2,⟨x.f3.f0,x.f3.f1,y⟩,x.f4,x.f5⟩,⟨y1,y2,show x.f1.size≤1048576 by omega,show x.f2.size≤1048576 by omega⟩,y3⟩
theorem copiesK (l:List S54) (h:∀ x ∈ l,∃ y,CpK x y):∃ ys:List S46,ys.length=l.length∧∀ (i:Nat) (h:i < l.length) (h':i < ys.length),CpK l[i] ys[i]:=by
 induction l with
 | nil=>exact ⟨[],rfl,fun i h=>absurd h (by simp)⟩
 | cons x l ih =>
  obtain ⟨y,hy⟩:=h x (by simp)
  obtain ⟨ys,h1,h2⟩:=ih (fun z hz=>h z (by simp [hz]))
  refine ⟨y :: ys,by simp [h1],fun i hi hi' => ?_⟩
  cases i with
  | zero=>exact hy
  | succ i=>exact h2 i (by simpa using hi) (by simpa using hi')
def CpL (l:List S54) (ys:List S46):Prop:=ys.length≤1048576∧(∀ y ∈ ys,CsSm y)∧Evt (fun k=>laws_toConstraintS.f k l) ys
theorem toCsS_ev (l:List S54) (hl:l.length≤1048576) (h:∀ x ∈ l,∃ y,CpK x y):∃ ys,CpL l ys:=by
 obtain ⟨ys,e,hc⟩:=copiesK l h
 refine ⟨ys,by omega,fun y hy=>?_,?_⟩
 ·obtain ⟨i,hi,rfl⟩:=List.mem_iff_getElem.1 hy
  exact (hc i (by omega) hi).1
 ·simp only [laws_toConstraintS.f]
  refine Evt.pos (by omega) (Evt.pos (by omega) ?_)
  rw [Int.toNat_natCast]
  have hh:∀ d i:Nat,i+d=l.length→Evt (fun k=>laws_toConstraintS.l0 k l (ys.take i ++ List.replicate (l.length - i) z46) (i:Int)) ys:=by
   intro d
   induction d with
   | zero =>
    intro i hi
    refine Evt.step ?_
    simp only [laws_toConstraintS.l0]
    refine Evt.neg (by omega) ((Evt.ret _).cast ?_)
    rw [show l.length - i=0 by omega,List.take_of_length_le (by omega)]
    simp
   | succ d ih =>
    intro i hi
    have hi':i < l.length:=by omega
    refine Evt.step ?_
    simp only [laws_toConstraintS.l0]
    rw [csL_at l i hi']
    refine Evt.pos (by omega) (Evt.pos (by omega) (Evt.bind (hc i hi' (by omega)).2 (Evt.pos (by simp;omega) ?_)))
    rw [Int.toNat_natCast,w64s (by omega)]
    have hx:(ys.take i).length=i:=by rw [List.length_take];omega
    have e2:(ys.take i ++ List.replicate (l.length - i) z46).set i (ys[i]'(by omega))=ys.take (i+1) ++ List.replicate (l.length - (i+1)) z46:=by
     rw [List.set_append_right _ _ (by omega),hx,Nat.sub_self,show l.length - i=(l.length - (i+1))+1 by omega,List.replicate_succ,zu,List.take_succ_eq_append_getElem (by omega),List.append_assoc]
     rfl
    simp only [csI_eta,e2]
    exact ih (i+1) (by omega)
  simpa using hh l.length 0 (by omega)
theorem szCsS_ev (l:List S54) (hl:l.length≤9223372036854775807) (h:∀ x ∈ l,CsOk x) (v:Int) (hv:0≤v) (hv':v≤1048576):∃ t,Evt (fun k=>laws_szConstraintS.f k l v) t∧(t = -1∨(0≤t∧t≤v∧∃ ys,CpL l ys)):=by
 simp only [laws_szConstraintS.f]
 rw [w64_sub (by omega) hv' hl]
 by_cases h1:v - l.length < 0
 ·exact ⟨-1,Evt.pos h1 (Evt.ret _),.inl rfl⟩
 have hh:∀ d i:Nat,i+d=l.length→∀ b:Int,0≤b→b≤1048576→∃ t,Evt (fun k=>laws_szConstraintS.l0 k l b (i:Int)) t∧(t = -1∨(0≤t∧t≤b∧∀ x ∈ l.drop i,∃ y,CpK x y)):=by
  intro d
  induction d with
  | zero =>
   intro i hi b hb hb'
   refine ⟨b,Evt.step ?_,.inr ⟨hb,Int.le_refl _,?_⟩⟩
   ·simp only [laws_szConstraintS.l0]
    exact Evt.neg (by omega) (Evt.ret _)
   ·rw [List.drop_of_length_le (by omega)]
    intro x hx
    cases hx
  | succ d ih =>
   intro i hi b hb hb'
   have hi':i < l.length:=by omega
   obtain ⟨t,ht,hc⟩:=szCs_ev l[i] (h _ (List.getElem_mem hi')) b hb hb'
   by_cases h2:t < 0
   ·refine ⟨-1,Evt.step ?_,.inl rfl⟩
    simp only [laws_szConstraintS.l0]
    rw [csL_at l i hi']
    exact Evt.pos (by omega) (Evt.pos (by omega) (Evt.bind ht (Evt.pos h2 (Evt.ret _))))
   ·have hc':=hc.resolve_left (by omega)
    obtain ⟨t',ht',hc2⟩:=ih (i+1) (by omega) t (by omega) (by omega)
    refine ⟨t',Evt.step ?_,?_⟩
    ·simp only [laws_szConstraintS.l0]
     rw [csL_at l i hi',w64s (by omega)]
     exact Evt.pos (by omega) (Evt.pos (by omega) (Evt.bind ht (Evt.neg h2 ht')))
    ·rcases hc2 with h3|⟨h3,h4,h5⟩
     ·exact .inl h3
     ·refine .inr ⟨h3,by omega,?_⟩
      rw [List.drop_eq_getElem_cons hi']
      intro x hx
      rcases List.mem_cons.1 hx with rfl|hx
      ·exact hc'.2.2
      ·exact h5 x hx
 obtain ⟨t,ht,hc⟩:=hh l.length 0 (by omega) (v - l.length) (by omega) (by omega)
 refine ⟨t,Evt.neg h1 ht,hc.imp id ?_⟩
 rintro ⟨g1,g2,g3⟩
 exact ⟨g1,by omega,toCsS_ev l (by omega) (by simpa using g3)⟩
theorem eqCsS_ev (ys:List S46) (hl:ys.length≤1048576) (h:∀ y ∈ ys,CsSm y):Evt (fun k=>laws_eqConstraintS.f k ys ys) true:=by
 simp only [laws_eqConstraintS.f]
 refine Evt.pos trivial ?_
 have hh:=Evt.up (fun k i=>laws_eqConstraintS.l0 k ys ys i) ys.length (fun _=>true) ?_ ?_
 ·exact hh
 ·refine Evt.step ?_
  simp only [laws_eqConstraintS.l0]
  exact Evt.neg (by omega) (Evt.ret _)
 ·intro i hi ih
  refine Evt.step ?_
  simp only [laws_eqConstraintS.l0]
  rw [csI_at ys i hi,w64s (by omega)]
  obtain ⟨g1,g2,_,_⟩:=h _ (List.getElem_mem hi)
  exact Evt.pos (by omega) (Evt.pos (by omega) (Evt.pos (by omega) (Evt.bind (eqConstraint_ev _ _ _ _ _ _ _ _ (by rw [rx_eta];exact g1) g2) (Evt.pos rfl ih))))
theorem szProblem_ev (l:List S54) (hl:l.length≤9223372036854775807) (h:∀ x ∈ l,CsOk x) (v:Int) (hv:0≤v) (hv':v≤1048576):∃ t,Evt (fun k=>laws_szProblem.f k l v) t∧(t = -1∨(0≤t∧t≤v∧∃ ys,CpL l ys)):=by
 obtain ⟨t,ht,hc⟩:=szCsS_ev l hl h v hv hv'
 simp only [laws_szProblem.f]
 rcases hc with rfl|⟨h0,h1,h2⟩
 ·exact ⟨-1,Evt.bind ht (Evt.pos (by decide) (Evt.ret _)),.inl rfl⟩
 ·exact ⟨t,Evt.bind ht (Evt.neg (by omega) (Evt.ret _)),.inr ⟨h0,h1,h2⟩⟩
theorem toProblem_ev {l:List S54} {ys:List S46} (h:CpL l ys):Evt (fun k=>laws_toProblem.f k l) ys:=by
 simp only [laws_toProblem.f]
 exact Evt.bind h.2.2 (Evt.ret _)
theorem eqProblem_ev {l:List S54} {ys:List S46} (h:CpL l ys):Evt (fun k=>laws_eqProblem.f k ys ys) true:=by
 simp only [laws_eqProblem.f]
 exact Evt.bind (eqCsS_ev ys h.1 h.2.1) (Evt.pos rfl (Evt.ret _))
theorem cntR_eq:∀ (d:Nat) (xs:List S43),cntR d xs=cntN d xs
 | 0,_=>rfl
 | d+1,xs=>by simp only [cntR,cntN,cntR_eq d]
theorem htB_eq:∀ (d:Nat) (x:S43),htB d x=htN d x
 | 0,_=>rfl
 | d+1,x=>by
  simp only [htB,htN]
  congr 1
  exact funext (htB_eq d)
theorem sum_bound {α:Type} (f:α→Nat) (B:Nat) (l:List α) (h:∀ x ∈ l,f x≤B):(l.map f).sum≤l.length * B:=by
 induction l with
 | nil=>simp
 | cons x l ih =>
  have h1:=h x (by simp)
  have h2:=ih fun y hy=>h y (by simp [hy])
  rw [List.map_cons,List.sum_cons,List.length_cons,Nat.succ_mul]
  omega
theorem marks_ok (ys:List S46) (hl:ys.length≤1048576) (h:∀ y ∈ ys,CsSm y):∃ K,∀ k,K≤k→(ys.all fun y=>y.f3.f2.all (htB k))=true∧cntC k ys≤4611686018427387000:=by
 have h1:∃ K,∀ k,K≤k→(ys.all fun y=>y.f3.f2.all (htB k))=true:=by
  clear hl
  induction ys with
  | nil=>exact ⟨0,fun _ _=>rfl⟩
  | cons y ys ih =>
   obtain ⟨K1,k1⟩:=ih fun z hz=>h z (by simp [hz])
   obtain ⟨_,_,_,K2,k2⟩:=(h y (by simp)).1.bd
   refine ⟨max K1 K2,fun k hk=>?_⟩
   rw [List.all_cons,k1 k (by omega),Bool.and_true,show htB k=htN k from funext (htB_eq k)]
   exact k2 k (by omega)
 obtain ⟨K,hK⟩:=h1
 refine ⟨K,fun k hk=>⟨hK k hk,?_⟩⟩
 have:=sum_bound (fun y:S46=>6+cntR k y.f3.f2+y.f4.length) 3145734 ys fun y hy=>by
  obtain ⟨g1,g2,_⟩:=h y hy
  obtain ⟨c,hc,b,_⟩:=g1.bd
  have:=b k
  rw [cntR_eq]
  omega
 have e:=Nat.mul_le_mul_right 3145734 hl
 unfold cntC
 omega
theorem mark_some (ys:List S46) (hl:ys.length≤1048576) (h:∀ y ∈ ys,CsSm y):∃ r,laws_markProblem.f ys 1=some r:=by
 obtain ⟨K,hK⟩:=marks_ok ys hl h
 obtain ⟨h1,h2⟩:=hK K (Nat.le_refl _)
 exact laws_markProblem.some_ ys ⟨K,h1,by omega⟩
end Go.Proofs.Yteolnmoomeenbaa.F
