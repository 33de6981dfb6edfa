/- FnModels: what its proof needs, put together by this session's program wip/merge.py out of the texts that wip/xp.py printed and of this session's own. -/
import Derived.Test.YtcbjhfoeecfcoaaGreatQFnModels6
import Derived.Deep.RegionHeld3
import Derived.Deep.RegionWith
import Derived.Laws.EntriesVeiled
import Derived.ChangeArms
import Derived.ChangeReads
import Derived.DataReads
import Derived.DataElems
import Derived.Lib.Strings
import Derived.Lib.Bytealg
set_option linter.unusedVariables false
set_option linter.unusedSimpArgs false
set_option linter.unusedSectionVars false
set_option maxHeartbeats 8000000
set_option maxRecDepth 100000
-- ALSO loop.example/g00582/impl.VarsOfProblem
-- ALSO loop.example/g00582/impl.cleared
-- ALSO loop.example/g00582/impl.IsValues
-- ALSO loop.example/g00582/impl.holds
namespace Go.Proofs.YtcbjhfoeecfcoaaGreat.Ext
open Go.RowKit YtcbjhfoeecfcoaaGreatW.PrintWords YtcbjhfoeecfcoaaGreatW.PrintLast YtcbjhfoeecfcoaaGreat.A
theorem toList_same {s t:ByteArray} (h:s.toList=t.toList):s=t:=by
 rw [Lib.toList_data,Lib.toList_data] at h
 cases s;cases t
 simp only [ByteArray.mk.injEq]
 exact Array.toList_inj.1 h
def notHolds (a b c:ByteArray) (x:S56):Option Bool:=(impl_holds.f x.f0 x.f1 x.f2 x.f3.f0 x.f3.f1 x.f3.f2 x.f4 x.f5 a b c).bind fun t=>some (!t)
set_option maxHeartbeats 1000000 in
theorem clo_model (a b c:ByteArray) (x:S56) (r:Bool) (h:notHolds a b c x=some r) (gv:Nat) (A5:Option Addr) (c5:Nat) (A6:Option Addr) (c6:Nat) (W:World) (hX:W.heap[gv]? = some (.cells #[.string a,.string b,.string c] 32 (0,0))) (g1:x.f3.f2.length≤c5) (g2:Kd.C k54 W A5 x.f3.f2.length x.f3.f2) (g3:x.f4.length≤c6) (g4:(Kd.int .i64).C W A6 x.f4.length x.f4) :
  Calls Tryz.prog 30 #[.agg #[.int .i64 x.f0,.string x.f1,.string x.f2,.int .i64 x.f3.f0,.string x.f3.f1,.slice A5 x.f3.f2.length c5,.slice A6 x.f4.length c6,.int .i64 x.f5],.pointer (some ⟨gv,0,none⟩)] W fun e W'=>e = .returned (.bool r)∧Below W.heap.size W W':=by
 obtain ⟨t,ht,hr⟩:=zo h
 obtain rfl:=zi hr
 have HV:=zk (fun (W':World) (hB:Below W.heap.size W W')=>impl_holds.calls x.f0 x.f1 x.f2 x.f3.f0 x.f3.f1 A5 c5 x.f3.f2 A6 c6 x.f4 x.f5 a b c t W' (Kd.C_below g2 hB) g1 (Kd.C_below g4 hB) g3 ht)
 have HB:=zk (Below.refl W.heap.size W)
 have HX:=zk hX
 obtain ⟨f0,f1,f2,⟨d,e,l⟩,f4,f5⟩:=x
 simp only at HV ⊢
 clear g1 g2 g3 g4 h ht hr hX
 go_enter Tryz.func30,Tryz.ntmps30
 go_wp2_with (first
  | ((with_reducible refine gate_dst (N:=2) rfl ?_);refine zE (cs:=#[.int .i64 f0,.string f1,.string f2,.int .i64 d,.string e,.slice A5 l.length c5,.slice A6 f4.length c6,.int .i64 f5]) (t:=56) ?_;intro gr hgr w3 hbox hb3;have X3:=zk hbox;have B3:=zk (below_step HB.out hb3);obtain ⟨z0,z1,z2,u0,u1,u2⟩:=blk3 (blk_below HX.out hb3);obtain ⟨y0,y1,y2,y3,y4,y5,y6,y7,q0,q1,q2,q3,q4,q5,q6,q7⟩:=blk8 hbox;clear hb3 hbox hgr)
  | (go_at_call 31;(with_reducible refine (HV.out _ (by first|exact B3.out|exact pw_below_drewN B3.out _|exact below_drew B3.out|exact HB.out)).mono ?_);rintro e w2 ⟨rfl,hb2⟩;have B2:=zk (show Below W.heap.size W w2 by first|exact below_step B3.out hb2|exact below_step HB.out hb2);clear hb2))
 go_ret
 exact ⟨za93,by first|exact B2.out|exact B3.out⟩
-- EXT loop.example/g582/impl.IsModel rounds making
def impl_IsModel.f (k:Nat) (l0_0:List S56) (a1_0:ByteArray) (a1_1:ByteArray) (a1_2:ByteArray):Option Bool :=
 (impl_IsValidProblem.f k l0_0).bind fun t=>if t=true then ((impl_IsValues.f k a1_0 a1_1 a1_2).bind fun u=>if u=true then ((impl_VarsOfProblem.f k l0_0).bind fun vs=>(impl_cleared.f k a1_0 a1_1 a1_2 vs).bind fun q=>if q=(a1_0,a1_1,a1_2) then ((anyO (notHolds a1_0 a1_1 a1_2) l0_0).bind fun b=>some (!b)) else some false) else some false) else some false
set_option maxHeartbeats 20000000 in
theorem impl_IsModel.calls (k:Nat) (A0_0:Option Addr) (c0_0:Nat) (l0_0:List S56) (a1_0:ByteArray) (a1_1:ByteArray) (a1_2:ByteArray) (r:Bool) (w:World) (hr0_0:Kd.C k56 w A0_0 l0_0.length l0_0) (hc0_0:l0_0.length≤c0_0) (h:impl_IsModel.f k l0_0 a1_0 a1_1 a1_2=some r) :
  Calls Tryz.prog 12 #[.agg #[.slice A0_0 l0_0.length c0_0],.agg #[.string a1_0,.string a1_1,.string a1_2]] w fun e w'=>e = .returned (.bool r)∧Below w.heap.size w w':=by
 have HB:=zk (Below.refl w.heap.size w)
 have HR:=zk hr0_0
 have HC:=zk hc0_0
 unfold impl_IsModel.f at h
 replace h:=zo h
 obtain ⟨t,ht,h⟩:=h
 have HV:=zk (fun (W:World) (hB:Below w.heap.size w W)=>impl_IsValidProblem.calls k A0_0 c0_0 l0_0 t W (Kd.C_below hr0_0 hB) hc0_0 ht)
 have HL6:Aside0 (t=true→l0_0.length≤6):=⟨fun e=>by
  subst e
  unfold impl_IsValidProblem.f at ht
  split at ht
  ·assumption
  ·cases ht⟩
 clear ht
 go_enter Tryz.func12,Tryz.ntmps12
 go_upto_region 1 with (first
  | ((with_reducible refine gate_dst (N:=2) rfl ?_);refine zE (cs:=#[.slice A0_0 l0_0.length c0_0]) (t:=26) ?_;intro gp hgp w3 hbox hb3;have X3:=zk hbox;have B3:=zk (below_step HB.out hb3);clear hb3 hbox hgp)
  | ((with_reducible refine gate_dst (N:=3) rfl ?_);refine zE (cs:=#[.string a1_0,.string a1_1,.string a1_2]) (t:=32) ?_;intro gv hgv w4 hbox hb4;have X4:=zk hbox;have Y4:=zk (blk_below X3.out hb4);have B4:=zk (below_step B3.out hb4);clear hb4 hbox hgv))
 obtain ⟨y0,g0⟩:=blk1 Y4.out
 obtain ⟨z0,z1,z2,u0,u1,u2⟩:=blk3 X4.out
 cases t with
 | false =>
  obtain rfl:=zi (show some false=some r from h)
  clear h hr0_0 hc0_0
  go_region_with (first|(go_at_call 17;(with_reducible refine (HV.out _ (by first|exact B4.out|exact below_drew B4.out|exact pw_below_drewN B4.out _)).mono ?_);rintro e w5 ⟨rfl,hb5⟩;have B5:=zk (show Below w.heap.size w w5 by first|exact below_step B4.out hb5|exact below_step (below_drew B4.out) hb5|exact below_step (pw_below_drewN B4.out _) hb5);clear hb5))
  all_goals
   go_wp2
   go_ret
   exact ⟨za93,by first|exact B5.out|exact below_drew B5.out|exact pw_below_drewN B5.out _⟩
 | true =>
  rw [if_pos rfl] at h
  replace h:=zo h
  obtain ⟨u,hu,h⟩:=h
  have HI:=zk (fun (W:World) (_:Below w.heap.size w W)=>impl_IsValues.calls k a1_0 a1_1 a1_2 u W hu)
  have h6:=HL6.out rfl
  have HBc:=B4
  have Yc:=Y4
  have Xc:=X4
  clear hu B4 Y4 X4 X3 B3 HL6
  cases u with
  | false =>
   obtain rfl:=zi (show some false=some r from h)
   clear h hr0_0 hc0_0
   go_region_with (first|(go_at_call 17;(with_reducible refine (HV.out _ za39).mono ?_);rintro e w5 ⟨rfl,hb5⟩;have n1:=zk (show Below w.heap.size w w5 by first|exact below_step HBc.out hb5|exact below_step (below_drew HBc.out) hb5|exact below_step (pw_below_drewN HBc.out _) hb5);have n2:=zk (show w5.heap[gp]? = _ by first|exact blk_below Yc.out hb5|exact blk_below (blk_drew Yc.out) hb5|exact blk_below (blk_drewN Yc.out _) hb5);have n3:=zk (show w5.heap[gv]? = _ by first|exact blk_below Xc.out hb5|exact blk_below (blk_drew Xc.out) hb5|exact blk_below (blk_drewN Xc.out _) hb5);clear HBc Yc Xc y0 g0 z0 z1 z2 u0 u1 u2 hb5;have HBc:=n1;have Yc:=n2;have Xc:=n3;clear n1 n2 n3;obtain ⟨y0,g0⟩:=blk1 Yc.out;obtain ⟨z0,z1,z2,u0,u1,u2⟩:=blk3 Xc.out)|(go_at_call 27;(with_reducible refine (HI.out _ za39).mono ?_);rintro e w5 ⟨rfl,hb5⟩;have n1:=zk (show Below w.heap.size w w5 by first|exact below_step HBc.out hb5|exact below_step (below_drew HBc.out) hb5|exact below_step (pw_below_drewN HBc.out _) hb5);have n2:=zk (show w5.heap[gp]? = _ by first|exact blk_below Yc.out hb5|exact blk_below (blk_drew Yc.out) hb5|exact blk_below (blk_drewN Yc.out _) hb5);have n3:=zk (show w5.heap[gv]? = _ by first|exact blk_below Xc.out hb5|exact blk_below (blk_drew Xc.out) hb5|exact blk_below (blk_drewN Xc.out _) hb5);clear HBc Yc Xc y0 g0 z0 z1 z2 u0 u1 u2 hb5;have HBc:=n1;have Yc:=n2;have Xc:=n3;clear n1 n2 n3;obtain ⟨y0,g0⟩:=blk1 Yc.out;obtain ⟨z0,z1,z2,u0,u1,u2⟩:=blk3 Xc.out))
   all_goals
    go_wp2
    go_ret
    exact ⟨za93,za39⟩
  | true =>
   rw [if_pos rfl] at h
   replace h:=zo h
   obtain ⟨vs,hvs,h⟩:=h
   replace h:=zo h
   obtain ⟨⟨q1,q2,q3⟩,hq,h⟩:=h
   have HP:=zk (fun (W:World) (hB:Below w.heap.size w W)=>impl_VarsOfProblem.calls k A0_0 c0_0 l0_0 vs W (Kd.C_below hr0_0 hB) hc0_0 hvs)
   have HQ:=zk (fun (W:World) (_:Below w.heap.size w W)=>impl_cleared.calls k a1_0 a1_1 a1_2 vs q1 q2 q3 W hq)
   clear hvs hq hr0_0 hc0_0
   by_cases he:(q1,q2,q3)=(a1_0,a1_1,a1_2)
   ·rw [if_pos he] at h
    obtain ⟨rfl,rfl,rfl⟩:q1=a1_0∧q2=a1_1∧q3=a1_2:=by simpa using he
    have HH:=zk h
    clear he h
    go_region_held3 (fun w'=>w'.cell? ⟨gp,0,none⟩=some (.slice A0_0 l0_0.length c0_0)∧w'.cell? ⟨gv,0,none⟩=some (.string q1)∧w'.cell? ⟨gv,1,none⟩=some (.string q2)∧w'.cell? ⟨gv,2,none⟩=some (.string q3)) (go_keep) (first|(go_at_call 17;(with_reducible refine (HV.out _ za39).mono ?_);rintro e w5 ⟨rfl,hb5⟩;have n1:=zk (show Below w.heap.size w w5 by first|exact below_step HBc.out hb5|exact below_step (below_drew HBc.out) hb5|exact below_step (pw_below_drewN HBc.out _) hb5);have n2:=zk (show w5.heap[gp]? = _ by first|exact blk_below Yc.out hb5|exact blk_below (blk_drew Yc.out) hb5|exact blk_below (blk_drewN Yc.out _) hb5);have n3:=zk (show w5.heap[gv]? = _ by first|exact blk_below Xc.out hb5|exact blk_below (blk_drew Xc.out) hb5|exact blk_below (blk_drewN Xc.out _) hb5);clear HBc Yc Xc y0 g0 z0 z1 z2 u0 u1 u2 hb5;have HBc:=n1;have Yc:=n2;have Xc:=n3;clear n1 n2 n3;obtain ⟨y0,g0⟩:=blk1 Yc.out;obtain ⟨z0,z1,z2,u0,u1,u2⟩:=blk3 Xc.out)|(go_at_call 27;(with_reducible refine (HI.out _ za39).mono ?_);rintro e w5 ⟨rfl,hb5⟩;have n1:=zk (show Below w.heap.size w w5 by first|exact below_step HBc.out hb5|exact below_step (below_drew HBc.out) hb5|exact below_step (pw_below_drewN HBc.out _) hb5);have n2:=zk (show w5.heap[gp]? = _ by first|exact blk_below Yc.out hb5|exact blk_below (blk_drew Yc.out) hb5|exact blk_below (blk_drewN Yc.out _) hb5);have n3:=zk (show w5.heap[gv]? = _ by first|exact blk_below Xc.out hb5|exact blk_below (blk_drew Xc.out) hb5|exact blk_below (blk_drewN Xc.out _) hb5);clear HBc Yc Xc y0 g0 z0 z1 z2 u0 u1 u2 hb5;have HBc:=n1;have Yc:=n2;have Xc:=n3;clear n1 n2 n3;obtain ⟨y0,g0⟩:=blk1 Yc.out;obtain ⟨z0,z1,z2,u0,u1,u2⟩:=blk3 Xc.out)|(go_at_call 18;(with_reducible refine (HP.out _ za39).mono ?_);rintro e w5 ⟨rfl,hb5⟩;have n1:=zk (show Below w.heap.size w w5 by first|exact below_step HBc.out hb5|exact below_step (below_drew HBc.out) hb5|exact below_step (pw_below_drewN HBc.out _) hb5);have n2:=zk (show w5.heap[gp]? = _ by first|exact blk_below Yc.out hb5|exact blk_below (blk_drew Yc.out) hb5|exact blk_below (blk_drewN Yc.out _) hb5);have n3:=zk (show w5.heap[gv]? = _ by first|exact blk_below Xc.out hb5|exact blk_below (blk_drew Xc.out) hb5|exact blk_below (blk_drewN Xc.out _) hb5);clear HBc Yc Xc y0 g0 z0 z1 z2 u0 u1 u2 hb5;have HBc:=n1;have Yc:=n2;have Xc:=n3;clear n1 n2 n3;obtain ⟨y0,g0⟩:=blk1 Yc.out;obtain ⟨z0,z1,z2,u0,u1,u2⟩:=blk3 Xc.out)|(go_at_call 28;(with_reducible refine (HQ.out _ za39).mono ?_);rintro e w5 ⟨rfl,hb5⟩;have n1:=zk (show Below w.heap.size w w5 by first|exact below_step HBc.out hb5|exact below_step (below_drew HBc.out) hb5|exact below_step (pw_below_drewN HBc.out _) hb5);have n2:=zk (show w5.heap[gp]? = _ by first|exact blk_below Yc.out hb5|exact blk_below (blk_drew Yc.out) hb5|exact blk_below (blk_drewN Yc.out _) hb5);have n3:=zk (show w5.heap[gv]? = _ by first|exact blk_below Xc.out hb5|exact blk_below (blk_drew Xc.out) hb5|exact blk_below (blk_drewN Xc.out _) hb5);clear HBc Yc Xc y0 g0 z0 z1 z2 u0 u1 u2 hb5;have HBc:=n1;have Yc:=n2;have Xc:=n3;clear n1 n2 n3;obtain ⟨y0,g0⟩:=blk1 Yc.out;obtain ⟨z0,z1,z2,u0,u1,u2⟩:=blk3 Xc.out))
    obtain ⟨b,hb,hr⟩:=zo HH.out
    obtain rfl:=zi hr
    obtain ⟨a1,a2⟩:=anyO_at hb
    have CC:=any_cs _ 30 #[.pointer (some ⟨gv,0,none⟩)] (enters_of Tryz.func30 (by kernel_rfl) rfl) A0_0 l0_0 c0_0 w5 (by omega) (Kd.C_below HR.out HBc.out) (fun i hi A5 c5 A6 c6 W hB g1 g2 g3 g4=>clo_model q1 q2 q3 l0_0[i] _ (a2 i hi) gv A5 c5 A6 c6 W (blk_below Xc.out hB) g1 (Kd.C_below g2 hB) g3 (Kd.C_below g4 hB))
    rw [a1] at CC
    have HCC:=zk CC
    clear CC a1 a2 hb hr HH HV HI HP HQ
    go_wp2_with (go_at_call 29;(with_reducible refine HCC.out.mono ?_);rintro e w9 ⟨rfl,hb9⟩;have B9:=zk (below_step HBc.out hb9);clear hb9)
    go_ret
    exact ⟨za93,B9.out⟩
   ·rw [if_neg he] at h
    obtain rfl:=zi (show some false=some r from h)
    have HE:=zk he
    clear he h
    by_cases e1:q1.toList=a1_0.toList
    ·have e1':=eq_true e1
     by_cases e2:q2.toList=a1_1.toList
     ·have e2':=eq_true e2
      have e3:¬ q3.toList=a1_2.toList:=fun e3=>HE.out (by rw [toList_same e1,toList_same e2,toList_same e3])
      have e3':=eq_false e3
      clear e1 e2 e3
      go_region_held3 (fun w'=>w'.cell? ⟨gp,0,none⟩=some (.slice A0_0 l0_0.length c0_0)∧w'.cell? ⟨gv,0,none⟩=some (.string a1_0)∧w'.cell? ⟨gv,1,none⟩=some (.string a1_1)∧w'.cell? ⟨gv,2,none⟩=some (.string a1_2)) (go_keep) (first|(go_at_call 17;(with_reducible refine (HV.out _ za39).mono ?_);rintro e w5 ⟨rfl,hb5⟩;have n1:=zk (show Below w.heap.size w w5 by first|exact below_step HBc.out hb5|exact below_step (below_drew HBc.out) hb5|exact below_step (pw_below_drewN HBc.out _) hb5);have n2:=zk (show w5.heap[gp]? = _ by first|exact blk_below Yc.out hb5|exact blk_below (blk_drew Yc.out) hb5|exact blk_below (blk_drewN Yc.out _) hb5);have n3:=zk (show w5.heap[gv]? = _ by first|exact blk_below Xc.out hb5|exact blk_below (blk_drew Xc.out) hb5|exact blk_below (blk_drewN Xc.out _) hb5);clear HBc Yc Xc y0 g0 z0 z1 z2 u0 u1 u2 hb5;have HBc:=n1;have Yc:=n2;have Xc:=n3;clear n1 n2 n3;obtain ⟨y0,g0⟩:=blk1 Yc.out;obtain ⟨z0,z1,z2,u0,u1,u2⟩:=blk3 Xc.out)|(go_at_call 27;(with_reducible refine (HI.out _ za39).mono ?_);rintro e w5 ⟨rfl,hb5⟩;have n1:=zk (show Below w.heap.size w w5 by first|exact below_step HBc.out hb5|exact below_step (below_drew HBc.out) hb5|exact below_step (pw_below_drewN HBc.out _) hb5);have n2:=zk (show w5.heap[gp]? = _ by first|exact blk_below Yc.out hb5|exact blk_below (blk_drew Yc.out) hb5|exact blk_below (blk_drewN Yc.out _) hb5);have n3:=zk (show w5.heap[gv]? = _ by first|exact blk_below Xc.out hb5|exact blk_below (blk_drew Xc.out) hb5|exact blk_below (blk_drewN Xc.out _) hb5);clear HBc Yc Xc y0 g0 z0 z1 z2 u0 u1 u2 hb5;have HBc:=n1;have Yc:=n2;have Xc:=n3;clear n1 n2 n3;obtain ⟨y0,g0⟩:=blk1 Yc.out;obtain ⟨z0,z1,z2,u0,u1,u2⟩:=blk3 Xc.out)|(go_at_call 18;(with_reducible refine (HP.out _ za39).mono ?_);rintro e w5 ⟨rfl,hb5⟩;have n1:=zk (show Below w.heap.size w w5 by first|exact below_step HBc.out hb5|exact below_step (below_drew HBc.out) hb5|exact below_step (pw_below_drewN HBc.out _) hb5);have n2:=zk (show w5.heap[gp]? = _ by first|exact blk_below Yc.out hb5|exact blk_below (blk_drew Yc.out) hb5|exact blk_below (blk_drewN Yc.out _) hb5);have n3:=zk (show w5.heap[gv]? = _ by first|exact blk_below Xc.out hb5|exact blk_below (blk_drew Xc.out) hb5|exact blk_below (blk_drewN Xc.out _) hb5);clear HBc Yc Xc y0 g0 z0 z1 z2 u0 u1 u2 hb5;have HBc:=n1;have Yc:=n2;have Xc:=n3;clear n1 n2 n3;obtain ⟨y0,g0⟩:=blk1 Yc.out;obtain ⟨z0,z1,z2,u0,u1,u2⟩:=blk3 Xc.out)|(go_at_call 28;(with_reducible refine (HQ.out _ za39).mono ?_);rintro e w5 ⟨rfl,hb5⟩;have n1:=zk (show Below w.heap.size w w5 by first|exact below_step HBc.out hb5|exact below_step (below_drew HBc.out) hb5|exact below_step (pw_below_drewN HBc.out _) hb5);have n2:=zk (show w5.heap[gp]? = _ by first|exact blk_below Yc.out hb5|exact blk_below (blk_drew Yc.out) hb5|exact blk_below (blk_drewN Yc.out _) hb5);have n3:=zk (show w5.heap[gv]? = _ by first|exact blk_below Xc.out hb5|exact blk_below (blk_drew Xc.out) hb5|exact blk_below (blk_drewN Xc.out _) hb5);clear HBc Yc Xc y0 g0 z0 z1 z2 u0 u1 u2 hb5;have HBc:=n1;have Yc:=n2;have Xc:=n3;clear n1 n2 n3;obtain ⟨y0,g0⟩:=blk1 Yc.out;obtain ⟨z0,z1,z2,u0,u1,u2⟩:=blk3 Xc.out))
      all_goals
       go_wp2
       go_ret
       exact ⟨za93,za39⟩
     ·have e2':=eq_false e2
      clear e1 e2
      go_region_held3 (fun w'=>w'.cell? ⟨gp,0,none⟩=some (.slice A0_0 l0_0.length c0_0)∧w'.cell? ⟨gv,0,none⟩=some (.string a1_0)∧w'.cell? ⟨gv,1,none⟩=some (.string a1_1)∧w'.cell? ⟨gv,2,none⟩=some (.string a1_2)) (go_keep) (first|(go_at_call 17;(with_reducible refine (HV.out _ za39).mono ?_);rintro e w5 ⟨rfl,hb5⟩;have n1:=zk (show Below w.heap.size w w5 by first|exact below_step HBc.out hb5|exact below_step (below_drew HBc.out) hb5|exact below_step (pw_below_drewN HBc.out _) hb5);have n2:=zk (show w5.heap[gp]? = _ by first|exact blk_below Yc.out hb5|exact blk_below (blk_drew Yc.out) hb5|exact blk_below (blk_drewN Yc.out _) hb5);have n3:=zk (show w5.heap[gv]? = _ by first|exact blk_below Xc.out hb5|exact blk_below (blk_drew Xc.out) hb5|exact blk_below (blk_drewN Xc.out _) hb5);clear HBc Yc Xc y0 g0 z0 z1 z2 u0 u1 u2 hb5;have HBc:=n1;have Yc:=n2;have Xc:=n3;clear n1 n2 n3;obtain ⟨y0,g0⟩:=blk1 Yc.out;obtain ⟨z0,z1,z2,u0,u1,u2⟩:=blk3 Xc.out)|(go_at_call 27;(with_reducible refine (HI.out _ za39).mono ?_);rintro e w5 ⟨rfl,hb5⟩;have n1:=zk (show Below w.heap.size w w5 by first|exact below_step HBc.out hb5|exact below_step (below_drew HBc.out) hb5|exact below_step (pw_below_drewN HBc.out _) hb5);have n2:=zk (show w5.heap[gp]? = _ by first|exact blk_below Yc.out hb5|exact blk_below (blk_drew Yc.out) hb5|exact blk_below (blk_drewN Yc.out _) hb5);have n3:=zk (show w5.heap[gv]? = _ by first|exact blk_below Xc.out hb5|exact blk_below (blk_drew Xc.out) hb5|exact blk_below (blk_drewN Xc.out _) hb5);clear HBc Yc Xc y0 g0 z0 z1 z2 u0 u1 u2 hb5;have HBc:=n1;have Yc:=n2;have Xc:=n3;clear n1 n2 n3;obtain ⟨y0,g0⟩:=blk1 Yc.out;obtain ⟨z0,z1,z2,u0,u1,u2⟩:=blk3 Xc.out)|(go_at_call 18;(with_reducible refine (HP.out _ za39).mono ?_);rintro e w5 ⟨rfl,hb5⟩;have n1:=zk (show Below w.heap.size w w5 by first|exact below_step HBc.out hb5|exact below_step (below_drew HBc.out) hb5|exact below_step (pw_below_drewN HBc.out _) hb5);have n2:=zk (show w5.heap[gp]? = _ by first|exact blk_below Yc.out hb5|exact blk_below (blk_drew Yc.out) hb5|exact blk_below (blk_drewN Yc.out _) hb5);have n3:=zk (show w5.heap[gv]? = _ by first|exact blk_below Xc.out hb5|exact blk_below (blk_drew Xc.out) hb5|exact blk_below (blk_drewN Xc.out _) hb5);clear HBc Yc Xc y0 g0 z0 z1 z2 u0 u1 u2 hb5;have HBc:=n1;have Yc:=n2;have Xc:=n3;clear n1 n2 n3;obtain ⟨y0,g0⟩:=blk1 Yc.out;obtain ⟨z0,z1,z2,u0,u1,u2⟩:=blk3 Xc.out)|(go_at_call 28;(with_reducible refine (HQ.out _ za39).mono ?_);rintro e w5 ⟨rfl,hb5⟩;have n1:=zk (show Below w.heap.size w w5 by first|exact below_step HBc.out hb5|exact below_step (below_drew HBc.out) hb5|exact below_step (pw_below_drewN HBc.out _) hb5);have n2:=zk (show w5.heap[gp]? = _ by first|exact blk_below Yc.out hb5|exact blk_below (blk_drew Yc.out) hb5|exact blk_below (blk_drewN Yc.out _) hb5);have n3:=zk (show w5.heap[gv]? = _ by first|exact blk_below Xc.out hb5|exact blk_below (blk_drew Xc.out) hb5|exact blk_below (blk_drewN Xc.out _) hb5);clear HBc Yc Xc y0 g0 z0 z1 z2 u0 u1 u2 hb5;have HBc:=n1;have Yc:=n2;have Xc:=n3;clear n1 n2 n3;obtain ⟨y0,g0⟩:=blk1 Yc.out;obtain ⟨z0,z1,z2,u0,u1,u2⟩:=blk3 Xc.out))
      all_goals
       go_wp2
       go_ret
       exact ⟨za93,za39⟩
    ·have e1':=eq_false e1
     clear e1
     go_region_held3 (fun w'=>w'.cell? ⟨gp,0,none⟩=some (.slice A0_0 l0_0.length c0_0)∧w'.cell? ⟨gv,0,none⟩=some (.string a1_0)∧w'.cell? ⟨gv,1,none⟩=some (.string a1_1)∧w'.cell? ⟨gv,2,none⟩=some (.string a1_2)) (go_keep) (first|(go_at_call 17;(with_reducible refine (HV.out _ za39).mono ?_);rintro e w5 ⟨rfl,hb5⟩;have n1:=zk (show Below w.heap.size w w5 by first|exact below_step HBc.out hb5|exact below_step (below_drew HBc.out) hb5|exact below_step (pw_below_drewN HBc.out _) hb5);have n2:=zk (show w5.heap[gp]? = _ by first|exact blk_below Yc.out hb5|exact blk_below (blk_drew Yc.out) hb5|exact blk_below (blk_drewN Yc.out _) hb5);have n3:=zk (show w5.heap[gv]? = _ by first|exact blk_below Xc.out hb5|exact blk_below (blk_drew Xc.out) hb5|exact blk_below (blk_drewN Xc.out _) hb5);clear HBc Yc Xc y0 g0 z0 z1 z2 u0 u1 u2 hb5;have HBc:=n1;have Yc:=n2;have Xc:=n3;clear n1 n2 n3;obtain ⟨y0,g0⟩:=blk1 Yc.out;obtain ⟨z0,z1,z2,u0,u1,u2⟩:=blk3 Xc.out)|(go_at_call 27;(with_reducible refine (HI.out _ za39).mono ?_);rintro e w5 ⟨rfl,hb5⟩;have n1:=zk (show Below w.heap.size w w5 by first|exact below_step HBc.out hb5|exact below_step (below_drew HBc.out) hb5|exact below_step (pw_below_drewN HBc.out _) hb5);have n2:=zk (show w5.heap[gp]? = _ by first|exact blk_below Yc.out hb5|exact blk_below (blk_drew Yc.out) hb5|exact blk_below (blk_drewN Yc.out _) hb5);have n3:=zk (show w5.heap[gv]? = _ by first|exact blk_below Xc.out hb5|exact blk_below (blk_drew Xc.out) hb5|exact blk_below (blk_drewN Xc.out _) hb5);clear HBc Yc Xc y0 g0 z0 z1 z2 u0 u1 u2 hb5;have HBc:=n1;have Yc:=n2;have Xc:=n3;clear n1 n2 n3;obtain ⟨y0,g0⟩:=blk1 Yc.out;obtain ⟨z0,z1,z2,u0,u1,u2⟩:=blk3 Xc.out)|(go_at_call 18;(with_reducible refine (HP.out _ za39).mono ?_);rintro e w5 ⟨rfl,hb5⟩;have n1:=zk (show Below w.heap.size w w5 by first|exact below_step HBc.out hb5|exact below_step (below_drew HBc.out) hb5|exact below_step (pw_below_drewN HBc.out _) hb5);have n2:=zk (show w5.heap[gp]? = _ by first|exact blk_below Yc.out hb5|exact blk_below (blk_drew Yc.out) hb5|exact blk_below (blk_drewN Yc.out _) hb5);have n3:=zk (show w5.heap[gv]? = _ by first|exact blk_below Xc.out hb5|exact blk_below (blk_drew Xc.out) hb5|exact blk_below (blk_drewN Xc.out _) hb5);clear HBc Yc Xc y0 g0 z0 z1 z2 u0 u1 u2 hb5;have HBc:=n1;have Yc:=n2;have Xc:=n3;clear n1 n2 n3;obtain ⟨y0,g0⟩:=blk1 Yc.out;obtain ⟨z0,z1,z2,u0,u1,u2⟩:=blk3 Xc.out)|(go_at_call 28;(with_reducible refine (HQ.out _ za39).mono ?_);rintro e w5 ⟨rfl,hb5⟩;have n1:=zk (show Below w.heap.size w w5 by first|exact below_step HBc.out hb5|exact below_step (below_drew HBc.out) hb5|exact below_step (pw_below_drewN HBc.out _) hb5);have n2:=zk (show w5.heap[gp]? = _ by first|exact blk_below Yc.out hb5|exact blk_below (blk_drew Yc.out) hb5|exact blk_below (blk_drewN Yc.out _) hb5);have n3:=zk (show w5.heap[gv]? = _ by first|exact blk_below Xc.out hb5|exact blk_below (blk_drew Xc.out) hb5|exact blk_below (blk_drewN Xc.out _) hb5);clear HBc Yc Xc y0 g0 z0 z1 z2 u0 u1 u2 hb5;have HBc:=n1;have Yc:=n2;have Xc:=n3;clear n1 n2 n3;obtain ⟨y0,g0⟩:=blk1 Yc.out;obtain ⟨z0,z1,z2,u0,u1,u2⟩:=blk3 Xc.out))
     all_goals
      go_wp2
      go_ret
      exact ⟨za93,za39⟩
end Go.Proofs.YtcbjhfoeecfcoaaGreat.Ext
namespace Go.Proofs.YtcbjhfoeecfcoaaGreat.A
open Go.RowKit YtcbjhfoeecfcoaaGreat.Ext YtcbjhfoeecfcoaaGreatW.PrintWords YtcbjhfoeecfcoaaGreatW.PrintLast YtcbjhfoeecfcoaaGreatW.PrintMore
attribute [local go_sem] max2_int min2_int max_two min_two max_three min_three max_four min_four
def impl_BoundOf.f (k:Nat) (l0_0:List (S56)):Option (Int):=(impl_IsValidProblem.f k l0_0).bind fun t10002=>(if t10002=true then ((some (([5,5,3,2]:List Int):List Int)).bind fun y10003=>((impl_VarsOfProblem.f k l0_0).bind fun t10006=>(if 0≤(t10006.size:Int) then (if (t10006.size:Int) < (y10003.length:Int) then (some (rd y10003 (t10006.size:Int))) else (none)) else (none)))) else (some (-1)))
theorem impl_BoundOf.calls (k:Nat) (A0_0:Option Addr) (c0_0:Nat) (l0_0:List (S56)) (r:Int) (w:World) (hr0_0:Kd.C k56 w A0_0 l0_0.length l0_0) (hc0_0:l0_0.length≤c0_0) (h:impl_BoundOf.f k l0_0=some r) :
   Calls Tryz.prog 10 #[.agg #[.slice A0_0 l0_0.length c0_0]] w fun e w'=>e = .returned (.int .i64 r)∧Below w.heap.size w w':=by
 have hu26:=Tryz.underlying26
 have HR0_0:=zk hr0_0
 have HC0_0:=zk hc0_0
 clear hr0_0 hc0_0
 have HB:=zk (Below.refl w.heap.size w)
 have H:=h
 unfold impl_BoundOf.f at H
 clear h
 obtain ⟨t2,A2,H⟩:=zO H
 try dsimp only at H
 by_cases c3:t2=true
 subst c3
 rw [if_pos rfl] at H
 try dsimp only at H
 obtain ⟨y10003,hy10003⟩:∃ y_:List Int,y_=(([5,5,3,2]:List Int)):=⟨_,rfl⟩
 replace H:((impl_VarsOfProblem.f k l0_0).bind fun t6=>(if 0≤(t6.size:Int) then (if (t6.size:Int) < (y10003.length:Int) then (some (rd y10003 (t6.size:Int))) else (none)) else (none)))=some r:=by first|(rw [hy10003];with_reducible exact H)|(have H2_:=(Option.bind_some _ _).symm.trans H;rw [hy10003];with_reducible exact H2_)|(have H2_:=(Option.bind_some _ _).symm.trans H;with_reducible exact H2_)|with_reducible exact H|(rw [hy10003];exact H)|exact H
 have Ny3:=zk hy10003
 clear hy10003
 obtain ⟨t6,A4,H⟩:=zO H
 try dsimp only at H
 by_cases c5:0≤(t6.size:Int)
 rw [if_pos c5] at H
 have c5b0:=zdle c5
 have c5b1:decide (0≤t6.size)=true:=decide_eq_true (by omega)
 clear c5
 by_cases c6:(t6.size:Int) < (y10003.length:Int)
 rw [if_pos c6] at H
 have c6b0:=zdl c6
 have c6b1:decide (t6.size < y10003.length)=true:=decide_eq_true (Int.ofNat_lt.mp c6)
 clear c6
 rotate_left
 · rw [if_neg c6] at H
   exact absurd H (by simp)
 · rw [if_neg c5] at H
   exact absurd H (by simp)
 replace c3:=Bool.eq_false_iff.mpr c3
 subst c3
 rw [if_neg zff] at H
 try dsimp only at H
 rotate_left
 all_goals
  obtain rfl:=zi H
  go_enter Tryz.func10,Tryz.ntmps10
  go_wp2_with (first|((with_reducible refine gate_dst (N:=1) rfl ?_);refine zE (cs:=#[.slice A0_0 l0_0.length c0_0]) (t:=26) ?_;intro gb1 hg w15 hbox hb;have BK1:=zk hbox;have GW1:=zk (zs (w:=w) hg za9);have GE1:=GW1;replace HB:=yB HB hb;clear hb hbox hg;obtain ⟨hcz16_0,hfz16_0⟩:=blk1 BK1.out)|((with_reducible refine gate_callee (f:=17) rfl ?_);refine zg (some 4) Tryz.func17 #[.agg #[.slice A0_0 l0_0.length c0_0]] rfl za14 ?_;(with_reducible refine (impl_IsValidProblem.calls k _ _ l0_0 _ _ ?side1 ?side2 A2.out).mono ?_);(case side1=>repeat (first|exact (Kd.C_below HR0_0.out HB.out)|(with_reducible refine Kd.C_alloc ?_ _)|(with_reducible refine Kd.C_drewN ?_ _)|(with_reducible refine Kd.C_drew ?_)));(case side2=>exact HC0_0.out);rintro e w17 ⟨rfl,hb⟩;refine ⟨_,rfl,?_⟩;replace BK1:=yb BK1 hb;replace HB:=yB HB hb;(try clear hb))|((with_reducible refine gate_dst (N:=6) rfl ?_);refine Kd.R_lit (Kd.int .i64) _ 3 ?hg (N:=6) ?hd (xs:=([5,5,3,2]:List Int)) (inner:=[.int .i64 5,.int .i64 5,.int .i64 3,.int .i64 2]) (ok:=fun _=>True) (okp:=fun _=>True) ?hr ?hp (fun _ hk=>hk) trivial (Below.refl _ _) (Nat.le_refl _) (by simp) ?_;(case hd=>rfl);(case hg=>rfl);(case hr=>first|(go_simp;done)|(go_simp;rfl));(case hp=>exact (Reps.one (show Kd.M (Kd.int .i64) _ _ _ 5 [.int .i64 5] from rfl) (Reps.one (show Kd.M (Kd.int .i64) _ _ _ 5 [.int .i64 5] from rfl) (Reps.one (show Kd.M (Kd.int .i64) _ _ _ 3 [.int .i64 3] from rfl) (Reps.one (show Kd.M (Kd.int .i64) _ _ _ 2 [.int .i64 2] from rfl) (Reps.none _ _))))));intro v4 w10 ho11 hb hg_ hnew_;clear hg_ hnew_;(first|rw [← Ny3.out] at ho11|(simp only [Int.reduceToNat] at ho11;rw [← Ny3.out] at ho11));have HO5:=zk (Kd.R_lower ho11 (below_size za9));replace BK1:=yb BK1 hb;replace HB:=yB HB hb;clear hb ho11;obtain ⟨hcz12_0,hfz12_0⟩:=blk1 BK1.out)|((with_reducible refine gate_callee (f:=18) rfl ?_);refine zg (some 8) Tryz.func18 #[.agg #[.slice A0_0 l0_0.length c0_0]] rfl za14 ?_;(with_reducible refine (impl_VarsOfProblem.calls k _ _ l0_0 t6 _ ?side1 ?side2 A4.out).mono ?_);(case side1=>repeat (first|exact (Kd.C_below HR0_0.out HB.out)|(with_reducible refine Kd.C_alloc ?_ _)|(with_reducible refine Kd.C_drewN ?_ _)|(with_reducible refine Kd.C_drew ?_)));(case side2=>exact HC0_0.out);rintro e w13 ⟨rfl,hb⟩;refine ⟨_,rfl,?_⟩;replace HO5:=zk (Kd.R_below (za2 HO5.out) hb);replace BK1:=yb BK1 hb;replace HB:=yB HB hb;(try clear hb);obtain ⟨Ao14,co14,eo14⟩:=Kd.R_slice HO5.out;subst eo14;have p10007:0≤((t6.size:Int):Int):=of_decide_eq_true za36;have q10007:(t6.size:Int) < (y10003.length:Int):=of_decide_eq_true za36;obtain ⟨ad10007,e10007,hx10007_0⟩:=Kd.at_int (Kd.R_reads' HO5.out).2.2 (t6.size:Int) p10007 q10007;(try simp only [Int.toNat_natCast] at hx10007_0);cases e10007;replace p10007:=eq_true p10007;replace q10007:=eq_true q10007))
  go_ret
  exact ⟨za24,za9⟩
end Go.Proofs.YtcbjhfoeecfcoaaGreat.A
-- ALSO loop.example/g00582/impl.WordsUpTo
-- ALSO loop.example/g00582/impl.BoundOf
-- ALSO loop.example/g00582/impl.WithValue
namespace Go.Proofs.YtcbjhfoeecfcoaaGreat.Ext
open Go Go.RowKit YtcbjhfoeecfcoaaGreatW.PrintWords YtcbjhfoeecfcoaaGreatW.PrintLast YtcbjhfoeecfcoaaGreat.A
mutual
def mwF:Nat→List S56→ByteArray→List ByteArray→Int→ByteArray→ByteArray→ByteArray→List S32→Option (List S32)
 | 0,_,_,_,_,_,_,_,_=>none
 | k+1,ps,ns,ws,i,x,y,z,out=>if i=(ns.size:Int) then ((impl_IsModel.f k ps x y z).bind fun t=>if t=true then (if out.length < 2932031007402 then some (out ++ [⟨x,y,z⟩]) else none) else some out) else mwL k ps ns ws i x y z out 0
def mwL:Nat→List S56→ByteArray→List ByteArray→Int→ByteArray→ByteArray→ByteArray→List S32→Int→Option (List S32)
 | 0,_,_,_,_,_,_,_,_,_=>none
 | k+1,ps,ns,ws,i,x,y,z,out,j=>if j < (ws.length:Int) then (if 0≤j∧0≤i∧i < (ns.size:Int) then ((impl_WithValue.f x y z (bt ns i) (rdOf ByteArray.empty ws j)).bind fun q=>(mwF k ps ns ws (wrap64 (i+1)) q.1 q.2.1 q.2.2 out).bind fun o=>mwL k ps ns ws i x y z o (wrap64 (j+1))) else none) else some out
end
structure Fr (go : Nat) (W : World) (vo : Value) (W' : World) (vo' : Value) : Prop where
 sz:W.heap.size≤W'.heap.size
 fr:∀ k,k < W.heap.size→k ≠ go→vo.ownBlock ≠ some k→W'.heap[k]? = W.heap[k]?
 n:∀ k,vo'.ownBlock=some k→vo.ownBlock=some k∨W.heap.size≤k
theorem Fr.refl (go:Nat) (W:World) (vo:Value):Fr go W vo W vo:=⟨Nat.le_refl _,fun _ _ _ _=>rfl,fun _ h => .inl h⟩
theorem Fr.trans {go:Nat} {W W1 W2:World} {v v1 v2:Value} (h:Fr go W v W1 v1) (h':Fr go W1 v1 W2 v2):Fr go W v W2 v2:=by
 refine ⟨Nat.le_trans h.sz h'.sz,fun k hk hg hv=>(h'.fr k (Nat.lt_of_lt_of_le hk h.sz) hg fun e=>?_).trans (h.fr k hk hg hv),fun k hk=>?_⟩
 ·rcases h.n k e with e|e
  ·exact hv e
  ·omega
 ·rcases h'.n k hk with e|e
  ·exact h.n k e
  ·exact .inr (Nat.le_trans h.sz e)
theorem Fr.below {go:Nat} {W W1 W2:World} {v v1:Value} (h:Fr go W v W1 v1) (hb:Below W1.heap.size W1 W2):Fr go W v W2 v1 :=
 h.trans ⟨below_size hb,fun k hk _ _=>hb.block k hk,fun _ h => .inl h⟩
structure St (w0 : World) (gn gp go gw gf : Nat) (A0 : Option Addr) (c0 : Nat) (ps : List S56) (ns : ByteArray) (Aw : Option Addr) (cw : Nat) (ws : List ByteArray) (W : World) (vo : Value) (out : List S32) : Prop where
 n:W.heap[gn]? = some (.cells #[.string ns] 9 (0,0))
 p:W.heap[gp]? = some (.cells #[.slice A0 ps.length c0] 26 (0,0))
 o:W.heap[go]? = some (.cells #[vo] 29 (0,0))
 w:W.heap[gw]? = some (.cells #[.slice Aw ws.length cw] 42 (0,0))
 k:W.heap[gf]? = some (.cells #[.func (.func 20) #[] #[.pointer (some ⟨gn,0,none⟩),.pointer (some ⟨gp,0,none⟩),.pointer (some ⟨go,0,none⟩),.pointer (some ⟨gw,0,none⟩),.pointer (some ⟨gf,0,none⟩)]] 44 (0,0))
 r:Kd.R k32 32 W w0.heap.size (fun _=>True) vo out
 q:Kd.R Kd.string 9 W w0.heap.size (fun k=>some k=(Value.slice Aw ws.length cw).ownBlock) (.slice Aw ws.length cw) ws
 b:Below w0.heap.size w0 W
 g:w0.heap.size≤go
section
variable {w0 : World} {gn gp go gw gf : Nat} {A0 : Option Addr} {c0 : Nat} {ps : List S56} {ns : ByteArray} {Aw : Option Addr} {cw : Nat} {ws : List ByteArray} {W W' : World} {vo vo' : Value} {out out' : List S32}
theorem St.below (h:St w0 gn gp go gw gf A0 c0 ps ns Aw cw ws W vo out) (hb:Below W.heap.size W W'):St w0 gn gp go gw gf A0 c0 ps ns Aw cw ws W' vo out :=
 ⟨blk_below h.n hb,blk_below h.p hb,blk_below h.o hb,blk_below h.w hb,blk_below h.k hb,Kd.R_below h.r hb,Kd.R_below h.q hb,below_step h.b hb,h.g⟩
theorem St.drewN (h:St w0 gn gp go gw gf A0 c0 ps ns Aw cw ws W vo out) (m:Nat):St w0 gn gp go gw gf A0 c0 ps ns Aw cw ws (W.drewN m) vo out:=h.below (pw_below_drewN (Below.refl _ _) m)
theorem St.drew (h:St w0 gn gp go gw gf A0 c0 ps ns Aw cw ws W vo out):St w0 gn gp go gw gf A0 c0 ps ns Aw cw ws W.drew vo out:=h.below (below_drew (Below.refl _ _))
theorem St.put (h:St w0 gn gp go gw gf A0 c0 ps ns Aw cw ws W vo out) (hg:W.grownBy W' vo.ownBlock) (hr:Kd.R k32 32 W' w0.heap.size (fun _=>True) vo' out') (hb:Below w0.heap.size w0 W') (hat:vo'.ownBlock=vo.ownBlock∨∃ b,vo'.ownBlock=some b∧W.heap.size≤b) :
  St w0 gn gp go gw gf A0 c0 ps ns Aw cw ws (W'.setCell ⟨go,0,none⟩ vo') vo' out'∧Fr go W vo (W'.setCell ⟨go,0,none⟩ vo') vo':=by
 have b1:=blk_grown h.n hg (Kd.R_ne h.r h.n (by decide))
 have b2:=blk_grown h.p hg (Kd.R_ne h.r h.p (by decide))
 have b3:=blk_grown h.o hg (Kd.R_ne h.r h.o (by decide))
 have b4:=blk_grown h.w hg (Kd.R_ne h.r h.w (by decide))
 have b5:=blk_grown h.k hg (Kd.R_ne h.r h.k (by decide))
 have q1:Kd.R Kd.string 9 W' w0.heap.size (fun k=>some k=(Value.slice Aw ws.length cw).ownBlock) (.slice Aw ws.length cw) ws:=by
  refine Kd.R_grown h.q hg fun k hk e=>?_
  obtain ⟨cs,hc⟩:=Kd.R_typed h.q k hk.symm
  exact Kd.R_ne h.r hc (by decide) e
 refine ⟨⟨blk_far b1 (blk_ne b1 b3 (by decide)) _,blk_far b2 (blk_ne b2 b3 (by decide)) _,blk_put b3 0 _ rfl,blk_far b4 (blk_ne b4 b3 (by decide)) _,blk_far b5 (blk_ne b5 b3 (by decide)) _,Kd.R_set hr b3 (by decide) 0 _,Kd.R_set q1 b3 (by decide) 0 _,hb.setCell h.g _,h.g⟩,⟨?_,fun k hk hne hv=>?_,fun k hk=>?_⟩⟩
 ·have:=hg.size;simpa using this
 ·rw [Below.heap_setCell _ _ _ _ hne]
  exact hg.block k hk fun e=>hv e.symm
 ·rcases hat with e|⟨b,e,hb⟩
  ·exact .inl (e ▸ hk)
  ·rw [e] at hk
   injection hk with hk
   exact .inr (hk ▸ hb)
set_option maxHeartbeats 4000000 in
theorem walk_calls (hps:Kd.C k56 w0 A0 ps.length ps) (hc0:ps.length≤c0) (hns:ns.size≤1000) (k:Nat):∀ (i:Int) (x y z:ByteArray) (out r:List S32) (W:World) (vo:Value),St w0 gn gp go gw gf A0 c0 ps ns Aw cw ws W vo out→mwF k ps ns ws i x y z out=some r →
  Calls Tryz.prog 20 #[.int .i64 i,.agg #[.string x,.string y,.string z],.pointer (some ⟨gn,0,none⟩),.pointer (some ⟨gp,0,none⟩),.pointer (some ⟨go,0,none⟩),.pointer (some ⟨gw,0,none⟩),.pointer (some ⟨gf,0,none⟩)] W fun e W'=>e = .returned (.tuple #[])∧∃ v',St w0 gn gp go gw gf A0 c0 ps ns Aw cw ws W' v' r∧Fr go W vo W' v':=by
 induction k using Nat.strongRecOn with
 | _ k ih =>
 intro i x y z out r W vo hS h
 cases k with
 | zero=>exact absurd h (by simp [mwF])
 | succ k =>
 simp only [mwF] at h
 have HS:=zk hS
 have HP:=zk hps
 have HC:=zk hc0
 have HN:=zk hns
 have HI:=zk ih
 have HH:=zk h
 clear hps hc0 hns ih h hS
 go_enter Tryz.func20,Tryz.ntmps20
 go_upto_region 1 with (first
  | ((with_reducible refine gate_dst (N:=8) rfl ?_);refine zE (cs:=#[.string x,.string y,.string z]) (t:=32) ?_;intro gv hgv w1 hbox hb1;have X1:=zk hbox;have S1:=zk (HS.out.below hb1);have F1:=zk ((Fr.refl go W vo).below hb1);have G1:=zk hgv;clear hb1 hbox hgv))
 obtain ⟨n0,n1⟩:=blk1 S1.out.n
 obtain ⟨p0,p1⟩:=blk1 S1.out.p
 obtain ⟨o0,o1⟩:=blk1 S1.out.o
 obtain ⟨w0_,w1_⟩:=blk1 S1.out.w
 obtain ⟨k0,k1⟩:=blk1 S1.out.k
 obtain ⟨x0,x1,x2,y0,y1,y2⟩:=blk3 X1.out
 have h:=HH.out
 clear HH
 by_cases hi:i=(ns.size:Int)
 ·subst hi
  rw [if_pos rfl] at h
  obtain ⟨t,ht,h⟩:=zo h
  have HM:=zk (fun (W':World) (hb:Below w0.heap.size w0 W')=>impl_IsModel.calls k A0 c0 ps x y z t W' (Kd.C_below HP.out hb) HC.out ht)
  clear ht
  cases t with
  | false =>
   obtain rfl:=zi (show some out=some r from h)
   clear h
   go_wp2_with (go_at_call 12;(with_reducible refine (HM.out _ S1.out.b).mono ?_);rintro e w2 ⟨rfl,hb2⟩;have S2:=zk (S1.out.below hb2);have F2:=zk (F1.out.below hb2);clear hb2)
   (try simp only [Exit.inBlock,Exit.then])
   refine bodyPost_ret (results_none rfl _ _ _) rfl ?_
   exact ⟨za93,vo,S2.out,F2.out⟩
  | true =>
   rw [if_pos rfl] at h
   by_cases hl:out.length < 2932031007402
   ·rw [if_pos hl] at h
    obtain rfl:=zi h
    have HL:=zk hl
    clear h hl
    go_wp2_with (first
     | (go_at_call 12;(with_reducible refine (HM.out _ S1.out.b).mono ?_);rintro e w2 ⟨rfl,hb2⟩;have S2:=zk (S1.out.below hb2);have F2:=zk (F1.out.below hb2);have X2:=zk (blk_below X1.out hb2);clear hb2 n0 n1 p0 p1 o0 o1 w0_ w1_ k0 k1 x0 x1 x2 y0 y1 y2;obtain ⟨o0,o1⟩:=blk1 S2.out.o;obtain ⟨x0,x1,x2,y0,y1,y2⟩:=blk3 X2.out)
     | ((with_reducible refine gate_builtin (b:=.append) (xs:=#[.tmp 18,.tmp 20]) rfl ?_);at_builtin;refine Kd.R_append k32 (w0:=w0) w0.heap.size rfl (.tmp 18) (.tmp 20) 29 32 (.agg #[(.string ⟨#[]⟩),(.string ⟨#[]⟩),(.string ⟨#[]⟩)]) 48 rfl Tryz.underlying29 info32 rfl (by decide) (by decide) vo out (⟨x,y,z⟩:S32) [.string x,.string y,.string z] (fun _=>True) (fun _=>False) rfl rfl (k32_mkM _ _ _ (⟨x,y,z⟩:S32)) (fun _ hk=>hk.elim) (fun _ _=>trivial) S2.out.r S2.out.b S2.out.b.size (by have:=HL.out;omega) ?_;intro v3 w3 ho hb hg hat;have S3:=zk (S2.out.put hg ho hb hat);have Z3:=zk (blk_grown S2.out.o hg (Kd.R_ne S2.out.r S2.out.o (by decide)));clear o0 o1 x0 x1 x2 y0 y1 y2;obtain ⟨A3,c3,e3⟩:=Kd.R_slice ho;subst e3;obtain ⟨o0,o1⟩:=blk1 Z3.out;clear ho hb hg hat))
    (try simp only [Exit.inBlock,Exit.then])
    refine bodyPost_ret (results_none rfl _ _ _) rfl ?_
    have T3:=S3.out
    rw [show (out ++ [(⟨x,y,z⟩:S32)]).length=out.length+1 by simp] at T3
    exact ⟨za93,_,T3.1,F2.out.trans T3.2⟩
   ·rw [if_neg hl] at h
    cases h
 ·rw [if_neg hi] at h
  have d1:decide (i=(ns.size:Int))=false:=decide_eq_false hi
  have d2:(i == (ns.size:Int))=false:=beq_eq_false_iff_ne.mpr hi
  have HH:=zk h
  clear h hi p0 p1 o0 o1 x0 x1 x2 y0 y1 y2
  go_wp2
  go_loopg [24] k (fun kq v24 w'=>∃ (o2:List S32) (j:Int) (v2:Value),v24 = .int .i64 j∧Aside0 (mwL kq ps ns ws i x y z o2 j=some r)∧Aside0 (kq≤k)∧Aside0 (St w0 gn gp go gw gf A0 c0 ps ns Aw cw ws w' v2 o2)∧Aside0 (Fr go W vo w' v2)∧Aside0 (w'.heap[gv]? = some (.cells #[.string x,.string y,.string z] 32 (0,0)))∧Aside0 (v2.ownBlock ≠ some gv))
  case atStart=>exact ⟨out,0,vo,za93,HH,⟨Nat.le_refl _⟩,S1,F1,X1,⟨fun e=>by have:=Kd.R_lt HS.out.r gv e;have:=G1.out;omega⟩⟩
  case round =>
   clear HH n0 n1 w0_ w1_ k0 k1 d1 d2
   obtain ⟨o2,j,v2,rfl,HA,HK,S2,F2,X2,V2⟩:=hrel
   cases gk with
   | zero=>exact absurd HA.out (by simp [mwL])
   | succ k1 =>
    have h:=HA.out
    clear HA
    simp only [mwL] at h
    obtain ⟨n0,n1⟩:=blk1 S2.out.n
    obtain ⟨k0,k1_⟩:=blk1 S2.out.k
    obtain ⟨x0,x1,x2,y0,y1,y2⟩:=blk3 X2.out
    by_cases hj:j < (ws.length:Int)
    ·rw [if_pos hj] at h
     by_cases hij:0≤j∧0≤i∧i < (ns.size:Int)
     ·rw [if_pos hij] at h
      obtain ⟨⟨q1,q2,q3⟩,hq,h⟩:=zo h
      obtain ⟨o3,ho,h⟩:=zo h
      have dj:decide (j < (ws.length:Int))=true:=decide_eq_true hj
      have HW:=zk (fun (W':World)=>impl_WithValue.calls x y z (bt ns i) (rdOf ByteArray.empty ws j) q1 q2 q3 W' hq)
      have HO:=zk (fun (W':World) (hS:St w0 gn gp go gw gf A0 c0 ps ns Aw cw ws W' v2 o2)=>HI.out k1 (by have:=HK.out;omega) (wrap64 (i+1)) q1 q2 q3 o2 o3 W' v2 hS ho)
      have HH:=zk h
      obtain ⟨ad,e1,hx1⟩:=Kd.at_string (Kd.R_reads' S2.out.q).2.2 j hij.1 hj
      cases e1
      have p4:=eq_true hij.2.1
      have q4:=eq_true hij.2.2
      have hx4:=bt_at ns i
      have pj:=eq_true hij.1
      have qj:=eq_true hj
      obtain ⟨i1,hi1⟩:∃ i1,wrap64 (i+1)=i1:=⟨_,rfl⟩
      rw [hi1] at HO
      have hw1:IntKind.i64.wrap (i+1)=i1:=by rw [i64_w];exact hi1
      clear hi1 hij hj h ho hq
      go_wp2
      go_region_held3 (fun w'=>w'.cell? ⟨gf,0,none⟩=some (.func (.func 20) #[] #[.pointer (some ⟨gn,0,none⟩),.pointer (some ⟨gp,0,none⟩),.pointer (some ⟨go,0,none⟩),.pointer (some ⟨gw,0,none⟩),.pointer (some ⟨gf,0,none⟩)])∧w'.cell? ⟨gn,0,none⟩=some (.string ns)∧w'.cell? ⟨gv,0,none⟩=some (.string x)∧w'.cell? ⟨gv,1,none⟩=some (.string y)∧w'.cell? ⟨gv,2,none⟩=some (.string z)) (go_keep) (first
       | (go_at_call 21;(with_reducible refine (HW.out _).mono ?_);rintro e w5 ⟨rfl,hb5⟩;have n2:=zk (show St w0 gn gp go gw gf A0 c0 ps ns (some ad) cw ws w5 v2 o2 by first|exact S2.out.below hb5|exact S2.out.drew.below hb5|exact (S2.out.drewN _).below hb5);have n3:=zk (show Fr go W vo w5 v2 by first|exact F2.out.below hb5|exact (F2.out.below (below_drew (Below.refl _ _))).below hb5|exact (F2.out.below (pw_below_drewN (Below.refl _ _) _)).below hb5);have n4:=zk (show w5.heap[gv]? = _ by first|exact blk_below X2.out hb5|exact blk_below (blk_drew X2.out) hb5|exact blk_below (blk_drewN X2.out _) hb5);clear S2 F2 X2 hb5 hx1;have S2:=n2;have F2:=n3;have X2:=n4;clear n2 n3 n4;clear n0 n1 k0 k1_ x0 x1 x2 y0 y1 y2;obtain ⟨n0,n1⟩:=blk1 S2.out.n;obtain ⟨k0,k1_⟩:=blk1 S2.out.k;obtain ⟨x0,x1,x2,y0,y1,y2⟩:=blk3 X2.out)
       | (go_at_call 20;(with_reducible refine (HO.out _ (by first|exact S2.out|exact S2.out.drew|exact S2.out.drewN _)).mono ?_);rintro e w5 ⟨rfl,v5,S5,F5⟩;have n2:=zk S5;have n3:=zk (show Fr go W vo w5 v5 by first|exact F2.out.trans F5|exact (F2.out.below (below_drew (Below.refl _ _))).trans F5|exact (F2.out.below (pw_below_drewN (Below.refl _ _) _)).trans F5);have n4:=zk (show w5.heap[gv]? = some (.cells #[.string x,.string y,.string z] 32 (0,0)) from (F5.fr gv (blk_lt X2.out) (blk_ne X2.out S2.out.o (by decide)) V2.out).trans X2.out);have n5:=zk (show v5.ownBlock ≠ some gv from fun e=>(F5.n gv e).elim V2.out fun h=>by have:=blk_lt X2.out;exact absurd h (Nat.not_le.2 this));clear S2 F2 X2 V2 S5 F5;have S2:=n2;have F2:=n3;have X2:=n4;have V2:=n5;clear n2 n3 n4 n5;clear n0 n1 k0 k1_ x0 x1 x2 y0 y1 y2;obtain ⟨n0,n1⟩:=blk1 S2.out.n;obtain ⟨k0,k1_⟩:=blk1 S2.out.k;obtain ⟨x0,x1,x2,y0,y1,y2⟩:=blk3 X2.out))
      all_goals
       go_wp2
       go_roundg k1
       case measure=>omega
       case rel=>exact ⟨o3,wrap64 (j+1),_,by first|rfl|(simp;done)|(simp [i64_w];done),HH,⟨by have:=HK.out;omega⟩,⟨by first|exact S2.out|exact S2.out.drew|exact S2.out.drewN _⟩,⟨by first|exact F2.out|exact F2.out.below (below_drew (Below.refl _ _))|exact F2.out.below (pw_below_drewN (Below.refl _ _) _)⟩,⟨by first|exact X2.out|exact blk_drew X2.out|exact blk_drewN X2.out _⟩,V2⟩
     ·rw [if_neg hij] at h
      cases h
    ·rw [if_neg hj] at h
     obtain rfl:=zi h
     have dj:decide (j < (ws.length:Int))=false:=decide_eq_false hj
     clear h hj
     go_wp2
     go_end0
     exact ⟨za93,v2,S2.out,F2.out⟩
end
-- EXT loop.example/g00582/impl.ModelsUpTo rounds making
def impl_ModelsUpTo.f (k:Nat) (l0_0:List S56) (a1:Int):Option (List S32) :=
 (impl_IsValidProblem.f k l0_0).bind fun t=>if t=true then (if a1 < 0 then some [] else ((impl_VarsOfProblem.f k l0_0).bind fun ns=>if ns.size≤1000 then ((impl_BoundOf.f k l0_0).bind fun b=>(impl_WordsUpTo.f k (min a1 b)).bind fun ws=>mwF k l0_0 ns ws 0 (⟨#[]⟩:ByteArray) (⟨#[]⟩:ByteArray) (⟨#[]⟩:ByteArray) []) else none)) else some []
theorem impl_ModelsUpTo.calls (k:Nat) (A0_0:Option Addr) (c0_0:Nat) (l0_0:List S56) (a1:Int) (r:List S32) (w:World) (hr0_0:Kd.C k56 w A0_0 l0_0.length l0_0) (hc0_0:l0_0.length≤c0_0) (h:impl_ModelsUpTo.f k l0_0 a1=some r) :
  Calls Tryz.prog 6 #[.agg #[.slice A0_0 l0_0.length c0_0],.int .i64 a1] w fun e w'=>∃ v0_:Value,e = .returned (v0_)∧Kd.R k32 32 w' w.heap.size (fun _=>True) v0_ r∧Below w.heap.size w w':=by
 have HB:=zk (Below.refl w.heap.size w)
 have HR:=zk hr0_0
 have HC:=zk hc0_0
 unfold impl_ModelsUpTo.f at h
 obtain ⟨t,ht,h⟩:=zo h
 have HV:=zk (fun (W:World) (hB:Below w.heap.size w W)=>impl_IsValidProblem.calls k A0_0 c0_0 l0_0 t W (Kd.C_below hr0_0 hB) hc0_0 ht)
 have HH:=zk h
 clear ht hr0_0 hc0_0 h
 go_enter Tryz.func6,Tryz.ntmps6
 go_upto_region 1 with (first
  | ((with_reducible refine gate_dst (N:=2) rfl ?_);refine zE (cs:=#[.slice A0_0 l0_0.length c0_0]) (t:=26) ?_;intro gp hgp w3 hbox hb3;have X3:=zk hbox;have B3:=zk (below_step HB.out hb3);have G3:=zk (show w.heap.size≤gp by omega);clear hb3 hbox hgp))
 obtain ⟨y0,g0⟩:=blk1 X3.out
 have h:=HH.out
 clear HH
 cases t with
 | false =>
  obtain rfl:=zi (show some []=some r from h)
  clear h
  go_wp2_with (go_at_call 17;(with_reducible refine (HV.out _ B3.out).mono ?_);rintro e w5 ⟨rfl,hb5⟩;have B5:=zk (below_step B3.out hb5);clear hb5)
  go_ret
  exact ⟨_,za93,Kd.R_nil _ _ _ _ _,B5.out⟩
 | true =>
  rw [if_pos rfl] at h
  by_cases hn:a1 < 0
  ·rw [if_pos hn] at h
   obtain rfl:=zi h
   have dn:decide (a1 < 0)=true:=decide_eq_true hn
   clear h hn
   go_wp2_with (go_at_call 17;(with_reducible refine (HV.out _ B3.out).mono ?_);rintro e w5 ⟨rfl,hb5⟩;have B5:=zk (below_step B3.out hb5);clear hb5)
   go_ret
   exact ⟨_,za93,Kd.R_nil _ _ _ _ _,B5.out⟩
  ·rw [if_neg hn] at h
   have dn:decide (a1 < 0)=false:=decide_eq_false hn
   obtain ⟨ns,hns,h⟩:=zo h
   by_cases hn1:ns.size≤1000
   ·rw [if_pos hn1] at h
    obtain ⟨b,hb,h⟩:=zo h
    obtain ⟨ws,hws,h⟩:=zo h
    have HP:=zk (fun (W:World) (hB:Below w.heap.size w W)=>impl_VarsOfProblem.calls k A0_0 c0_0 l0_0 ns W (Kd.C_below HR.out hB) HC.out hns)
    have HO:=zk (fun (W:World) (hB:Below w.heap.size w W)=>impl_BoundOf.calls k A0_0 c0_0 l0_0 b W (Kd.C_below HR.out hB) HC.out hb)
    have HW:=zk (fun (W:World)=>impl_WordsUpTo.calls k (min a1 b) ws W hws)
    have HH:=zk h
    clear h hns hb hws hn
    go_upto_region 4 with (first
     | (go_at_call 17;(with_reducible refine (HV.out _ B3.out).mono ?_);rintro e w5 ⟨rfl,hb5⟩;have B5:=zk (below_step B3.out hb5);have X5:=zk (blk_below X3.out hb5);clear hb5 y0 g0;obtain ⟨y0,g0⟩:=blk1 X5.out)
     | (go_at_call 18;(with_reducible refine (HP.out _ B5.out).mono ?_);rintro e w6 ⟨rfl,hb6⟩;have B6:=zk (below_step B5.out hb6);have X6:=zk (blk_below X5.out hb6);clear hb6 y0 g0;obtain ⟨y0,g0⟩:=blk1 X6.out))
    obtain ⟨w7,hw7⟩:∃ w7,w6.alloc (.cells #[.string ns] 9)=w7:=⟨_,rfl⟩
    obtain ⟨gn,hgn⟩:∃ gn,w6.heap.size=gn:=⟨_,rfl⟩
    have N7:Aside0 (w7.heap[gn]? = some (.cells #[.string ns] 9 (0,0))):=⟨by rw [← hw7,← hgn];exact blk_new _ _⟩
    have X7:Aside0 (w7.heap[gp]? = some (.cells #[.slice A0_0 l0_0.length c0_0] 26 (0,0))):=⟨by rw [← hw7];exact blk_alloc X6.out _⟩
    have B7:Aside0 (Below w.heap.size w w7):=⟨by rw [← hw7];exact below_alloc B6.out _⟩
    rw [hw7,hgn]
    clear hw7 hgn y0 g0 X3 X5 X6 B5 B6
    obtain ⟨y0,g0⟩:=blk1 X7.out
    go_upto_region 5 with (first
     | (go_at_call 10;(with_reducible refine (HO.out _ B7.out).mono ?_);rintro e w8 ⟨rfl,hb8⟩;have B8:=zk (below_step B7.out hb8);have X8:=zk (blk_below X7.out hb8);have N8:=zk (blk_below N7.out hb8);clear hb8 y0 g0;obtain ⟨y0,g0⟩:=blk1 X8.out)
     | (go_at_call 19;(with_reducible refine (HW.out _).mono ?_);rintro e w9 ⟨v9,rfl,hr9,hb9⟩;obtain ⟨Aw,cw,ew⟩:=Kd.R_slice hr9;subst ew;have Q9:=zk (Kd.R_lower hr9 B8.out.size);have B9:=zk (below_step B8.out hb9);have X9:=zk (blk_below X8.out hb9);have N9:=zk (blk_below N8.out hb9);clear hb9 hr9 y0 g0;obtain ⟨y0,g0⟩:=blk1 X9.out))
    obtain ⟨w10,hw10⟩:∃ w10,w9.alloc (.cells #[.slice Aw ws.length cw] 42)=w10:=⟨_,rfl⟩
    obtain ⟨gw,hgw⟩:∃ gw,w9.heap.size=gw:=⟨_,rfl⟩
    have M10:Aside0 (w10.heap[gw]? = some (.cells #[.slice Aw ws.length cw] 42 (0,0))):=⟨by rw [← hw10,← hgw];exact blk_new _ _⟩
    have X10:Aside0 (w10.heap[gp]? = some (.cells #[.slice A0_0 l0_0.length c0_0] 26 (0,0))):=⟨by rw [← hw10];exact blk_alloc X9.out _⟩
    have N10:Aside0 (w10.heap[gn]? = some (.cells #[.string ns] 9 (0,0))):=⟨by rw [← hw10];exact blk_alloc N9.out _⟩
    have Q10:Aside0 (Kd.R Kd.string 9 w10 w.heap.size (fun _=>True) (.slice Aw ws.length cw) ws):=⟨by rw [← hw10];exact Kd.R_alloc Q9.out _⟩
    have B10:Aside0 (Below w.heap.size w w10):=⟨by rw [← hw10];exact below_alloc B9.out _⟩
    rw [hw10,hgw]
    clear hw10 hgw y0 g0 X7 X8 X9 N7 N8 N9 B7 B8 B9 Q9
    go_upto_region 6 with (first
     | ((with_reducible refine gate_dst (N:=23) rfl ?_);refine Kd.R_lit k32 _ 32 ?hg (N:=23) ?hd (xs:=([]:List S32)) (inner:=[]) (ok:=fun _=>True) (okp:=fun _=>True) ?hr ?hp (fun _ hk=>hk) trivial (Below.refl _ _) (Nat.le_refl _) (by simp) ?_;(case hd=>rfl);(case hg=>rfl);(case hr=>first|(go_simp;done)|(go_simp;rfl));(case hp=>exact (Reps.none _ _));intro v11 w11 ho hb hg_ hnew_;clear hg_ hnew_;obtain ⟨Ao,co,eo⟩:=Kd.R_slice ho;subst eo;have R11:=zk (Kd.R_lower ho B10.out.size);have M11:=zk (blk_below M10.out hb);have X11:=zk (blk_below X10.out hb);have N11:=zk (blk_below N10.out hb);have Q11:=zk (Kd.R_below Q10.out hb);have B11:=zk (below_step B10.out hb);clear hb ho))
    obtain ⟨w12,hw12⟩:∃ w12,w11.alloc (.cells #[.slice Ao 0 co] 29)=w12:=⟨_,rfl⟩
    obtain ⟨go,hgo⟩:∃ go,w11.heap.size=go:=⟨_,rfl⟩
    have O12:Aside0 (w12.heap[go]? = some (.cells #[.slice Ao 0 co] 29 (0,0))):=⟨by rw [← hw12,← hgo];exact blk_new _ _⟩
    have M12:Aside0 (w12.heap[gw]? = some (.cells #[.slice Aw ws.length cw] 42 (0,0))):=⟨by rw [← hw12];exact blk_alloc M11.out _⟩
    have X12:Aside0 (w12.heap[gp]? = some (.cells #[.slice A0_0 l0_0.length c0_0] 26 (0,0))):=⟨by rw [← hw12];exact blk_alloc X11.out _⟩
    have N12:Aside0 (w12.heap[gn]? = some (.cells #[.string ns] 9 (0,0))):=⟨by rw [← hw12];exact blk_alloc N11.out _⟩
    have Q12:Aside0 (Kd.R Kd.string 9 w12 w.heap.size (fun _=>True) (.slice Aw ws.length cw) ws):=⟨by rw [← hw12];exact Kd.R_alloc Q11.out _⟩
    have R12:Aside0 (Kd.R k32 32 w12 w.heap.size (fun _=>True) (.slice Ao 0 co) []):=⟨by rw [← hw12];exact Kd.R_alloc R11.out _⟩
    have B12:Aside0 (Below w.heap.size w w12):=⟨by rw [← hw12];exact below_alloc B11.out _⟩
    have G12:Aside0 (w.heap.size≤go):=⟨by rw [← hgo];exact B11.out.size⟩
    rw [hw12,hgo]
    clear hw12 hgo X10 X11 N10 N11 B10 B11 Q10 Q11 R11 M10 M11
    go_upto_region 8 with (fail)
    obtain ⟨gf,hgf⟩:∃ gf,w12.heap.size=gf:=⟨_,rfl⟩
    rw [hgf]
    obtain ⟨w13,hw13⟩:∃ w13,w12.alloc (.cells #[.func (.func 20) #[] #[.pointer (some ⟨gn,0,none⟩),.pointer (some ⟨gp,0,none⟩),.pointer (some ⟨go,0,none⟩),.pointer (some ⟨gw,0,none⟩),.pointer (some ⟨gf,0,none⟩)]] 44)=w13:=⟨_,rfl⟩
    have S13:Aside0 (St w gn gp go gw gf A0_0 c0_0 l0_0 ns Aw cw ws w13 (.slice Ao 0 co) []):=⟨by
     rw [← hw13]
     exact ⟨blk_alloc N12.out _,blk_alloc X12.out _,blk_alloc O12.out _,blk_alloc M12.out _,by rw [← hgf];exact blk_new _ _,Kd.R_alloc R12.out _,Kd.R_alloc (Kd.R_tight rfl Q12.out) _,below_alloc B12.out _,G12.out⟩⟩
    rw [hw13]
    clear hw13 hgf N12 X12 O12 M12 Q12 R12 B12 G12
    have CW:=zk (walk_calls (w0:=w) (gn:=gn) (gp:=gp) (go:=go) (gw:=gw) (gf:=gf) (Aw:=Aw) (cw:=cw) HR.out HC.out hn1 k 0 _ _ _ [] r w13 (.slice Ao 0 co) S13.out HH.out)
    obtain ⟨k0,k1⟩:=blk1 S13.out.k
    go_upto_region 9 with (go_at_call 20;(with_reducible refine CW.out.mono ?_);rintro e w14 ⟨rfl,v14,S14,F14⟩;obtain ⟨Ap,cp,ep⟩:=Kd.R_slice S14.r;subst ep;have T14:=zk S14;clear S14 F14)
    obtain ⟨o0,o1⟩:=blk1 T14.out.o
    go_wp2
    go_ret
    exact ⟨_,za93,T14.out.r,T14.out.b⟩
   ·rw [if_neg hn1] at h
    cases h
end Go.Proofs.YtcbjhfoeecfcoaaGreat.Ext
namespace Go.Proofs.YtcbjhfoeecfcoaaGreat.A
open Go.RowKit YtcbjhfoeecfcoaaGreat.Ext YtcbjhfoeecfcoaaGreatW.PrintWords YtcbjhfoeecfcoaaGreatW.PrintLast YtcbjhfoeecfcoaaGreatW.PrintMore
attribute [local go_sem] max2_int min2_int max_two min_two max_three min_three max_four min_four
def impl_TotalLength.f (a0_0:ByteArray) (a0_1:ByteArray) (a0_2:ByteArray):Option (Int):=some (wrap64 ((wrap64 ((a0_0.size:Int)+(a0_1.size:Int)))+(a0_2.size:Int)))
theorem impl_TotalLength.calls (a0_0:ByteArray) (a0_1:ByteArray) (a0_2:ByteArray) (r:Int) (w:World) (h:impl_TotalLength.f a0_0 a0_1 a0_2=some r) :
  Calls Tryz.prog 13 #[.agg #[.string a0_0,.string a0_1,.string a0_2]] w fun e w'=>e = .returned (.int .i64 r)∧Below w.heap.size w w':=by
 have hu32:=Tryz.underlying32
 have HB:=zk (Below.refl w.heap.size w)
 have H:=h
 unfold impl_TotalLength.f at H
 clear h
 obtain rfl:=zi H
 go_enter Tryz.func13,Tryz.ntmps13
 go_wp2_with ((((with_reducible refine gate_dst (N:=1) rfl ?_);refine zE (cs:=#[.string a0_0,.string a0_1,.string a0_2]) (t:=32) ?_;intro gb1 hg w2 hbox hb;have BK1:=zk hbox;have GW1:=zk (zs (w:=w) hg za15);have GE1:=GW1;replace HB:=yB HB hb;clear hb hbox hg;obtain ⟨hcz3_0,hcz3_1,hcz3_2,hfz3_0,hfz3_1,hfz3_2⟩:=blk3 BK1.out)))
 go_ret
 exact ⟨by (rfl),za15⟩
def impl_LeastModel.l0:Nat→Bool→List (S32)→Int→Int→ByteArray→ByteArray→ByteArray→Option (ByteArray × ByteArray × ByteArray × Bool)
 | 0,_,_,_,_,_,_,_=>none
 | k+1,x7,x13,x14,x15,x8004000,x8004001,x8004002=>if x15 < x14 then (if 0≤x15 then (if x15 < (x13.length:Int) then (if x7=true then ((impl_TotalLength.f ((rd_T32 x13 x15).f0) ((rd_T32 x13 x15).f1) ((rd_T32 x13 x15).f2)).bind fun t8009=>((impl_TotalLength.f x8004000 x8004001 x8004002).bind fun t8010=>(if t8009 < t8010 then (impl_LeastModel.l0 k true x13 x14 (wrap64 (x15+1)) ((rd_T32 x13 x15).f0) ((rd_T32 x13 x15).f1) ((rd_T32 x13 x15).f2)) else (impl_LeastModel.l0 k x7 x13 x14 (wrap64 (x15+1)) x8004000 x8004001 x8004002)))) else (impl_LeastModel.l0 k true x13 x14 (wrap64 (x15+1)) ((rd_T32 x13 x15).f0) ((rd_T32 x13 x15).f1) ((rd_T32 x13 x15).f2))) else (none)) else (none)) else (some (x8004000,x8004001,x8004002,x7))
def impl_LeastModel.f (k:Nat) (l0_0:List (S56)) (a1:Int):Option (ByteArray × ByteArray × ByteArray × Bool):=(impl_ModelsUpTo.f k l0_0 a1).bind fun t8004=>(impl_LeastModel.l0 k false t8004 (t8004.length:Int) 0 (⟨#[]⟩:ByteArray) (⟨#[]⟩:ByteArray) (⟨#[]⟩:ByteArray))
def impl_LeastModel.T5:Bool × List (List Nat × List Nat):=(true,[([],[]),([0],[0]),([1],[1]),([2],[2]),([3,2,2],[2,3]),([2],[2]),([5,4,2],[2,5]),([4,6,2],[2,4,6]),([2,7],[2,7])])
def impl_LeastModel.B5:List Nat:=[0,1,3,7,15,7,63,127,255]
theorem impl_LeastModel.tab5:rtab .any (opsOf Tryz.f8 5)=impl_LeastModel.T5:=by kernel_rfl
theorem impl_LeastModel.bits5:waitsOk impl_LeastModel.T5.2 impl_LeastModel.B5=true:=by kernel_rfl
theorem impl_LeastModel.calls (k:Nat) (A0_0:Option Addr) (c0_0:Nat) (l0_0:List (S56)) (a1:Int) (r1:ByteArray) (r2:ByteArray) (r3:ByteArray) (r4:Bool) (w:World) (hr0_0:Kd.C k56 w A0_0 l0_0.length l0_0) (hc0_0:l0_0.length≤c0_0) (h:impl_LeastModel.f k l0_0 a1=some (r1,r2,r3,r4)) :
   Calls Tryz.prog 8 #[.agg #[.slice A0_0 l0_0.length c0_0],.int .i64 a1] w fun e w'=>e = .returned (.tuple #[.agg #[.string r1,.string r2,.string r3],.bool r4])∧Below w.heap.size w w':=by
 have hu26:=Tryz.underlying26
 have hu32:=Tryz.underlying32
 have HR0_0:=zk hr0_0
 have HC0_0:=zk hc0_0
 clear hr0_0 hc0_0
 have HB:=zk (Below.refl w.heap.size w)
 have H:=h
 unfold impl_LeastModel.f at H
 clear h
 obtain ⟨t4,A3,H⟩:=zO H
 try dsimp only at H
 have H':=zk H
 clear H
 go_enter Tryz.func8,Tryz.ntmps8
 go_wp2_with (first|((with_reducible refine gate_dst (N:=2) rfl ?_);refine zE (cs:=#[.slice A0_0 l0_0.length c0_0]) (t:=26) ?_;intro gb1 hg w4 hbox hb;have BK1:=zk hbox;have GW1:=zk (zs (w:=w) hg za15);have GE1:=GW1;replace HB:=yB HB hb;clear hb hbox hg)|((with_reducible refine gate_dst (N:=4) rfl ?_);refine zE (cs:=#[.string ⟨#[]⟩,.string ⟨#[]⟩,.string ⟨#[]⟩]) (t:=32) ?_;intro gb2 hg w5 hbox hb;have BK2:=zk hbox;have GW2:=zk (zs (w:=w) hg za15);have GE2:=GW2;have NB1_2:=yn hg BK1;have NB2_1:=yp hg BK1;replace BK1:=yb BK1 hb;replace HB:=yB HB hb;clear hb hbox hg)|((with_reducible refine gate_dst (N:=6) rfl ?_);refine zE (cs:=#[.string ⟨#[]⟩,.string ⟨#[]⟩,.string ⟨#[]⟩]) (t:=32) ?_;intro gb3 hg w6 hbox hb;have BK3:=zk hbox;have GW3:=zk (zs (w:=w) hg za15);have GE3:=GW3;have NB1_3:=yn hg BK1;have NB3_1:=yp hg BK1;have NB2_3:=yn hg BK2;have NB3_2:=yp hg BK2;replace BK1:=yb BK1 hb;replace BK2:=yb BK2 hb;replace HB:=yB HB hb;clear hb hbox hg;have hnb7:=NB3_1.out;have hnc7:=NB1_3.out;have hnb8:=NB3_2.out;have hnc8:=NB2_3.out;obtain ⟨hcz9_0,hcz9_1,hcz9_2,hfz9_0,hfz9_1,hfz9_2⟩:=blk3 BK3.out;have hnb10:=NB1_2.out;have hnc10:=NB2_1.out;obtain ⟨hcz11_0,hfz11_0⟩:=blk1 BK1.out)|((with_reducible refine gate_callee (f:=6) rfl ?_);refine zg (some 13) Tryz.func6 #[.agg #[.slice A0_0 l0_0.length c0_0],.int .i64 a1] rfl za11 ?_;(with_reducible refine (impl_ModelsUpTo.calls k _ _ l0_0 a1 t4 _ ?side1 ?side2 A3.out).mono ?_);(case side1=>exact Kd.C_below HR0_0.out za15);(case side2=>exact HC0_0.out);rintro e w12 ⟨v5,rfl,ho0,hb⟩;refine ⟨_,rfl,?_⟩;have HO6:=zk (Kd.R_lower (Kd.R_newB (Kd.R_newB ho0 (g:=gb2) (o:=.cells #[.string ⟨#[]⟩,.string ⟨#[]⟩,.string ⟨#[]⟩] 32 (0,0)) (zpw BK2.out)) (g:=gb3) (o:=.cells #[.string ⟨#[]⟩,.string ⟨#[]⟩,.string ⟨#[]⟩] 32 (0,0)) (zpu BK3.out)) (below_size za15));replace BK1:=zk (blk_below (g:=gb1) (o:=.cells #[.slice A0_0 l0_0.length c0_0] 26 (0,0)) (zpw BK1.out) hb);replace BK2:=zk (blk_below (g:=gb2) (o:=.cells #[.string ⟨#[]⟩,.string ⟨#[]⟩,.string ⟨#[]⟩] 32 (0,0)) (zpw BK2.out) hb);replace BK3:=zk (blk_below (g:=gb3) (o:=.cells #[.string ⟨#[]⟩,.string ⟨#[]⟩,.string ⟨#[]⟩] 32 (0,0)) (zpu BK3.out) hb);replace HB:=yB HB hb;(try clear hb ho0);obtain ⟨Ao13,co13,eo13⟩:=Kd.R_slice HO6.out;subst eo13))
 try simp only [Act.put,zt,zv,zu]
 go_loopg [7,15] k (fun kq v7 v15 w'=>∃ (x7_1:Bool) (x15_1:Int) (x8004000_1:ByteArray) (x8004001_1:ByteArray) (x8004002_1:ByteArray),v7 = .bool x7_1∧v15 = .int .i64 x15_1∧Aside0 (impl_LeastModel.l0 kq x7_1 t4 (t4.length:Int) x15_1 x8004000_1 x8004001_1 x8004002_1=some (r1,r2,r3,r4))∧Aside0 (kq≤k)∧Aside0 (Kd.R k32 32 w' w.heap.size (fun k_=>k_ ≠ gb2∧k_ ≠ gb3) (.slice Ao13 t4.length co13) t4)∧Aside0 (w'.heap[gb1]? = some (.cells #[(.slice A0_0 l0_0.length c0_0)] 26 (0,0)))∧Aside0 (w'.heap[gb2]? = some (.cells #[.string ⟨#[]⟩,.string ⟨#[]⟩,.string ⟨#[]⟩] 32 (0,0)))∧Aside0 (w'.heap[gb3]? = some (.cells #[.string x8004000_1,.string x8004001_1,.string x8004002_1] 32 (0,0)))∧Aside0 (Below w.heap.size w w'))
 case atStart=>exact ⟨(false),(0),((⟨#[]⟩:ByteArray)),((⟨#[]⟩:ByteArray)),((⟨#[]⟩:ByteArray)),(by (rfl)),(by (rfl)),H',⟨Nat.le_refl _⟩,⟨by (with_reducible repeat ((apply Kd.R_alloc)));exact Kd.R_mono HO6.out (fun _ hk=>⟨hk.1.2,hk.2⟩)⟩,⟨za3 BK1.out⟩,⟨za3 BK2.out⟩,⟨za3 BK3.out⟩,⟨za15⟩⟩
 case round =>
  clear H'
  try clear hcz11_0
  try clear hcz9_0
  try clear hcz9_1
  try clear hcz9_2
  try clear hfz11_0
  try clear hfz9_0
  try clear hfz9_1
  try clear hfz9_2
  obtain ⟨x7_1,x15_1,x8004000_1,x8004001_1,x8004002_1,rfl,rfl,HA,HK1,HO_13,BK1,BK2,BK3,HB⟩:=hrel
  cases gk with
  | zero=>exact absurd HA.out (by simp [impl_LeastModel.l0])
  | succ k1 =>
   have H:=HA.out
   clear HA
   simp only [impl_LeastModel.l0] at H
   by_cases c14:x15_1 < (t4.length:Int)
   rw [if_pos c14] at H
   have c14b0:=zdl c14
   clear c14
   by_cases c15:0≤x15_1
   rw [if_pos c15] at H
   have c15b0:=zdle c15
   clear c15
   by_cases c16:x15_1 < (t4.length:Int)
   rw [if_pos c16] at H
   have c16b0:=zdl c16
   clear c16
   by_cases c17:x7_1=true
   subst c17
   rw [if_pos rfl] at H
   try dsimp only at H
   obtain ⟨t9,A18,H⟩:=zO H
   try dsimp only at H
   obtain ⟨t10,A19,H⟩:=zO H
   try dsimp only at H
   by_cases c20:t9 < t10
   ·rw [if_pos c20] at H
    have c20b0:=zdl c20
    clear c20
    have H':=zk H
    clear H
    have p8007:0≤(x15_1:Int):=of_decide_eq_true za25
    have q8007:x15_1 < (t4.length:Int):=of_decide_eq_true za25
    obtain ⟨ad8007,e8007,hx8007_0,hx8007_1,hx8007_2⟩:=at_T32 (Kd.R_reads' HO_13.out).2.2 x15_1 p8007 q8007
    cases e8007
    replace p8007:=eq_true p8007
    replace q8007:=eq_true q8007
    try go_wp2_with ((((with_reducible refine gate_dst (N:=9) rfl ?_);refine zE (cs:=#[.string ⟨#[]⟩,.string ⟨#[]⟩,.string ⟨#[]⟩]) (t:=32) ?_;intro gb8 hg w21 hbox hb;replace HO_13:=zk (Kd.R_below (Kd.R_elderB (za1 HO_13.out) gb8 (Nat.le_of_eq hg.symm)) hb);have BK8:=zk hbox;have GW8:=zk (zs (w:=w) hg za15);have GE8:=GW8;have NB1_8:=yn hg BK1;have NB8_1:=yp hg BK1;have NB2_8:=yn hg BK2;have NB8_2:=yp hg BK2;have NB3_8:=yn hg BK3;have NB8_3:=yp hg BK3;replace BK1:=yb BK1 hb;replace BK2:=yb BK2 hb;replace BK3:=yb BK3 hb;replace HB:=yB HB hb;clear hb hbox hg;have hnb22:=NB8_1.out;have hnc22:=NB1_8.out;have hnb23:=NB8_2.out;have hnc23:=NB2_8.out;have hnb24:=NB8_3.out;have hnc24:=NB3_8.out;obtain ⟨hcz25_0,hcz25_1,hcz25_2,hfz25_0,hfz25_1,hfz25_2⟩:=blk3 BK8.out)))
    have n0_:Aside0 (Kd.R k32 32 (((w21.setCell ⟨gb8,0,none⟩ (.string ((rd_T32 t4 x15_1).f0))).setCell ⟨gb8,1,none⟩ (.string ((rd_T32 t4 x15_1).f1))).setCell ⟨gb8,2,none⟩ (.string ((rd_T32 t4 x15_1).f2))) w.heap.size (fun k_=>k_ ≠ gb2∧k_ ≠ gb3∧k_ ≠ gb8) (.slice (some ad8007) t4.length co13) t4):=⟨za62⟩
    have n1_:Aside0 ((((w21.setCell ⟨gb8,0,none⟩ (.string ((rd_T32 t4 x15_1).f0))).setCell ⟨gb8,1,none⟩ (.string ((rd_T32 t4 x15_1).f1))).setCell ⟨gb8,2,none⟩ (.string ((rd_T32 t4 x15_1).f2))).heap[gb1]? = some (.cells #[.slice A0_0 l0_0.length c0_0] 26 (0,0))):=⟨zpw BK1.out⟩
    have n2_:Aside0 ((((w21.setCell ⟨gb8,0,none⟩ (.string ((rd_T32 t4 x15_1).f0))).setCell ⟨gb8,1,none⟩ (.string ((rd_T32 t4 x15_1).f1))).setCell ⟨gb8,2,none⟩ (.string ((rd_T32 t4 x15_1).f2))).heap[gb2]? = some (.cells #[.string ⟨#[]⟩,.string ⟨#[]⟩,.string ⟨#[]⟩] 32 (0,0))):=⟨zpw BK2.out⟩
    have n3_:Aside0 ((((w21.setCell ⟨gb8,0,none⟩ (.string ((rd_T32 t4 x15_1).f0))).setCell ⟨gb8,1,none⟩ (.string ((rd_T32 t4 x15_1).f1))).setCell ⟨gb8,2,none⟩ (.string ((rd_T32 t4 x15_1).f2))).heap[gb3]? = some (.cells #[.string x8004000_1,.string x8004001_1,.string x8004002_1] 32 (0,0))):=⟨zpw BK3.out⟩
    have n4_:Aside0 ((((w21.setCell ⟨gb8,0,none⟩ (.string ((rd_T32 t4 x15_1).f0))).setCell ⟨gb8,1,none⟩ (.string ((rd_T32 t4 x15_1).f1))).setCell ⟨gb8,2,none⟩ (.string ((rd_T32 t4 x15_1).f2))).heap[gb8]? = some (.cells #[.string ((rd_T32 t4 x15_1).f0),.string ((rd_T32 t4 x15_1).f1),.string ((rd_T32 t4 x15_1).f2)] 32 (0,0))):=⟨zpu BK8.out⟩
    have n5_:Aside0 (Below w.heap.size w (((w21.setCell ⟨gb8,0,none⟩ (.string ((rd_T32 t4 x15_1).f0))).setCell ⟨gb8,1,none⟩ (.string ((rd_T32 t4 x15_1).f1))).setCell ⟨gb8,2,none⟩ (.string ((rd_T32 t4 x15_1).f2)))):=⟨za15⟩
    (try clear HO_13)
    (try clear BK1)
    (try clear BK2)
    (try clear BK3)
    (try clear BK8)
    (try clear HB)
    generalize (((w21.setCell ⟨gb8,0,none⟩ (.string ((rd_T32 t4 x15_1).f0))).setCell ⟨gb8,1,none⟩ (.string ((rd_T32 t4 x15_1).f1))).setCell ⟨gb8,2,none⟩ (.string ((rd_T32 t4 x15_1).f2)))=w26 at n0_ n1_ n2_ n3_ n4_ n5_ ⊢
    have HO_13:=n0_
    have BK1:=n1_
    have BK2:=n2_
    have BK3:=n3_
    have BK8:=n4_
    have HB:=n5_
    clear n0_ n1_ n2_ n3_ n4_ n5_
    replace HO_13:=zk (Kd.R_drew HO_13.out)
    replace BK1:=zk (blk_drew BK1.out)
    replace BK2:=zk (blk_drew BK2.out)
    replace BK3:=zk (blk_drew BK3.out)
    replace BK8:=zk (blk_drew BK8.out)
    replace HB:=zk (below_drew1 HB.out)
    refine start_ (n:=9) (S:=fun w'=>w'.cell? ⟨gb8,0,none⟩=some (.string ((rd_T32 t4 x15_1).f0))∧w'.cell? ⟨gb8,1,none⟩=some (.string ((rd_T32 t4 x15_1).f1))∧w'.cell? ⟨gb8,2,none⟩=some (.string ((rd_T32 t4 x15_1).f2))∧w'.cell? ⟨gb3,0,none⟩=some (.string x8004000_1)∧w'.cell? ⟨gb3,1,none⟩=some (.string x8004001_1)∧w'.cell? ⟨gb3,2,none⟩=some (.string x8004002_1)) (ds:=[]) #[false,false,false,false,false,false,false,false,false] (by kernel_rfl) rfl rfl ⟨(blk_cell BK8.out 0).trans rfl,(blk_cell BK8.out 1).trans rfl,(blk_cell BK8.out 2).trans rfl,(blk_cell BK3.out 0).trans rfl,(blk_cell BK3.out 1).trans rfl,(blk_cell BK3.out 2).trans rfl⟩ (fun hHeld=>?_);refine with_tabW impl_LeastModel.tab5 impl_LeastModel.bits5 (fun HT_ HW_=>?_)
    generalize w26.drew=w27 at HO_13 BK1 BK2 BK3 BK8 HB hHeld ⊢
    refine zy 0 (some 19) HT_.out ?_
    refine zy 1 (some 20) HT_.out ?_
    refine zy 2 (some 21) HT_.out ?_
    refine ztk 3 (some 22) HT_.out HW_.out hHeld ?_
    refine ztk 5 (some 24) HT_.out HW_.out hHeld ?_
    refine zon 4 (some 23) HT_.out (fun K hK=>?_)
    refine goes_ Tryz.func13 (by kernel_rfl) rfl #[.agg #[.string ((rd_T32 t4 x15_1).f0),.string ((rd_T32 t4 x15_1).f1),.string ((rd_T32 t4 x15_1).f2)]] (by rfl) rfl rfl za11 ?_
    with_reducible refine (impl_TotalLength.calls ((rd_T32 t4 x15_1).f0) ((rd_T32 t4 x15_1).f1) ((rd_T32 t4 x15_1).f2) t9 _ A18.out).mono ?_
    rintro e w28 ⟨rfl,hb⟩
    refine ⟨_,rfl,?_⟩
    replace HO_13:=zk (Kd.R_below (za1 HO_13.out) hb)
    replace BK1:=yb BK1 hb
    replace BK2:=yb BK2 hb
    replace BK3:=yb BK3 hb
    replace BK8:=yb BK8 hb
    replace HB:=yB HB hb
    (try clear hb)
    (try clear hb2)
    (try clear hk)
    (try clear hi)
    refine hK.out _ _ ⟨(blk_cell BK8.out 0).trans rfl,(blk_cell BK8.out 1).trans rfl,(blk_cell BK8.out 2).trans rfl,(blk_cell BK3.out 0).trans rfl,(blk_cell BK3.out 1).trans rfl,(blk_cell BK3.out 2).trans rfl⟩ (fun hHeld=>?_)
    clear hK K
    refine zno (some 23) ?_
    refine zon 6 (some 25) HT_.out (fun K hK=>?_)
    refine goes_ Tryz.func13 (by kernel_rfl) rfl #[.agg #[.string x8004000_1,.string x8004001_1,.string x8004002_1]] (by rfl) rfl rfl za11 ?_
    with_reducible refine (impl_TotalLength.calls x8004000_1 x8004001_1 x8004002_1 t10 _ A19.out).mono ?_
    rintro e w29 ⟨rfl,hb⟩
    refine ⟨_,rfl,?_⟩
    replace HO_13:=zk (Kd.R_below (za1 HO_13.out) hb)
    replace BK1:=yb BK1 hb
    replace BK2:=yb BK2 hb
    replace BK3:=yb BK3 hb
    replace BK8:=yb BK8 hb
    replace HB:=yB HB hb
    (try clear hb)
    (try clear hb2)
    (try clear hk)
    (try clear hi)
    refine hK.out _ _ ⟨(blk_cell BK8.out 0).trans rfl,(blk_cell BK8.out 1).trans rfl,(blk_cell BK8.out 2).trans rfl,(blk_cell BK3.out 0).trans rfl,(blk_cell BK3.out 1).trans rfl,(blk_cell BK3.out 2).trans rfl⟩ (fun hHeld=>?_)
    clear hK K
    refine zno (some 25) ?_
    refine zy 7 (some 26) HT_.out ?_
    refine zy 8 (some 27) HT_.out ?_
    refine done_ (done_of HT_.out (by kernel_rfl)) ?_
    obtain ⟨hcz30_0,hcz30_1,hcz30_2,hfz30_0,hfz30_1,hfz30_2⟩:=blk3 BK8.out
    have hnb31:=NB3_1.out
    have hnc31:=NB1_3.out
    have hnb32:=NB3_2.out
    have hnc32:=NB2_3.out
    obtain ⟨hcz33_0,hcz33_1,hcz33_2,hfz33_0,hfz33_1,hfz33_2⟩:=blk3 BK3.out
    try go_wp2
    go_roundg k1
    case measure=>have:=HK1.out;omega
    case rel=>exact ⟨(true),(wrap64 (x15_1+1)),((rd_T32 t4 x15_1).f0),((rd_T32 t4 x15_1).f1),((rd_T32 t4 x15_1).f2),(by (rfl)),(by (rfl)),H',⟨za43⟩,⟨za78⟩,⟨zpw BK1.out⟩,⟨zpw BK2.out⟩,⟨zpu BK3.out⟩,⟨za15⟩⟩
   ·rw [if_neg c20] at H
    have c20b0:=zdnl c20
    clear c20
    have H':=zk H
    clear H
    have p8007:0≤(x15_1:Int):=of_decide_eq_true za25
    have q8007:x15_1 < (t4.length:Int):=of_decide_eq_true za25
    obtain ⟨ad8007,e8007,hx8007_0,hx8007_1,hx8007_2⟩:=at_T32 (Kd.R_reads' HO_13.out).2.2 x15_1 p8007 q8007
    cases e8007
    replace p8007:=eq_true p8007
    replace q8007:=eq_true q8007
    try go_wp2_with ((((with_reducible refine gate_dst (N:=9) rfl ?_);refine zE (cs:=#[.string ⟨#[]⟩,.string ⟨#[]⟩,.string ⟨#[]⟩]) (t:=32) ?_;intro gb8 hg w34 hbox hb;replace HO_13:=zk (Kd.R_below (Kd.R_elderB (za1 HO_13.out) gb8 (Nat.le_of_eq hg.symm)) hb);have BK8:=zk hbox;have GW8:=zk (zs (w:=w) hg za15);have GE8:=GW8;have NB1_8:=yn hg BK1;have NB8_1:=yp hg BK1;have NB2_8:=yn hg BK2;have NB8_2:=yp hg BK2;have NB3_8:=yn hg BK3;have NB8_3:=yp hg BK3;replace BK1:=yb BK1 hb;replace BK2:=yb BK2 hb;replace BK3:=yb BK3 hb;replace HB:=yB HB hb;clear hb hbox hg;have hnb35:=NB8_1.out;have hnc35:=NB1_8.out;have hnb36:=NB8_2.out;have hnc36:=NB2_8.out;have hnb37:=NB8_3.out;have hnc37:=NB3_8.out;obtain ⟨hcz38_0,hcz38_1,hcz38_2,hfz38_0,hfz38_1,hfz38_2⟩:=blk3 BK8.out)))
    have n0_:Aside0 (Kd.R k32 32 (((w34.setCell ⟨gb8,0,none⟩ (.string ((rd_T32 t4 x15_1).f0))).setCell ⟨gb8,1,none⟩ (.string ((rd_T32 t4 x15_1).f1))).setCell ⟨gb8,2,none⟩ (.string ((rd_T32 t4 x15_1).f2))) w.heap.size (fun k_=>k_ ≠ gb2∧k_ ≠ gb3∧k_ ≠ gb8) (.slice (some ad8007) t4.length co13) t4):=⟨za62⟩
    have n1_:Aside0 ((((w34.setCell ⟨gb8,0,none⟩ (.string ((rd_T32 t4 x15_1).f0))).setCell ⟨gb8,1,none⟩ (.string ((rd_T32 t4 x15_1).f1))).setCell ⟨gb8,2,none⟩ (.string ((rd_T32 t4 x15_1).f2))).heap[gb1]? = some (.cells #[.slice A0_0 l0_0.length c0_0] 26 (0,0))):=⟨zpw BK1.out⟩
    have n2_:Aside0 ((((w34.setCell ⟨gb8,0,none⟩ (.string ((rd_T32 t4 x15_1).f0))).setCell ⟨gb8,1,none⟩ (.string ((rd_T32 t4 x15_1).f1))).setCell ⟨gb8,2,none⟩ (.string ((rd_T32 t4 x15_1).f2))).heap[gb2]? = some (.cells #[.string ⟨#[]⟩,.string ⟨#[]⟩,.string ⟨#[]⟩] 32 (0,0))):=⟨zpw BK2.out⟩
    have n3_:Aside0 ((((w34.setCell ⟨gb8,0,none⟩ (.string ((rd_T32 t4 x15_1).f0))).setCell ⟨gb8,1,none⟩ (.string ((rd_T32 t4 x15_1).f1))).setCell ⟨gb8,2,none⟩ (.string ((rd_T32 t4 x15_1).f2))).heap[gb3]? = some (.cells #[.string x8004000_1,.string x8004001_1,.string x8004002_1] 32 (0,0))):=⟨zpw BK3.out⟩
    have n4_:Aside0 ((((w34.setCell ⟨gb8,0,none⟩ (.string ((rd_T32 t4 x15_1).f0))).setCell ⟨gb8,1,none⟩ (.string ((rd_T32 t4 x15_1).f1))).setCell ⟨gb8,2,none⟩ (.string ((rd_T32 t4 x15_1).f2))).heap[gb8]? = some (.cells #[.string ((rd_T32 t4 x15_1).f0),.string ((rd_T32 t4 x15_1).f1),.string ((rd_T32 t4 x15_1).f2)] 32 (0,0))):=⟨zpu BK8.out⟩
    have n5_:Aside0 (Below w.heap.size w (((w34.setCell ⟨gb8,0,none⟩ (.string ((rd_T32 t4 x15_1).f0))).setCell ⟨gb8,1,none⟩ (.string ((rd_T32 t4 x15_1).f1))).setCell ⟨gb8,2,none⟩ (.string ((rd_T32 t4 x15_1).f2)))):=⟨za15⟩
    (try clear HO_13)
    (try clear BK1)
    (try clear BK2)
    (try clear BK3)
    (try clear BK8)
    (try clear HB)
    generalize (((w34.setCell ⟨gb8,0,none⟩ (.string ((rd_T32 t4 x15_1).f0))).setCell ⟨gb8,1,none⟩ (.string ((rd_T32 t4 x15_1).f1))).setCell ⟨gb8,2,none⟩ (.string ((rd_T32 t4 x15_1).f2)))=w39 at n0_ n1_ n2_ n3_ n4_ n5_ ⊢
    have HO_13:=n0_
    have BK1:=n1_
    have BK2:=n2_
    have BK3:=n3_
    have BK8:=n4_
    have HB:=n5_
    clear n0_ n1_ n2_ n3_ n4_ n5_
    replace HO_13:=zk (Kd.R_drew HO_13.out)
    replace BK1:=zk (blk_drew BK1.out)
    replace BK2:=zk (blk_drew BK2.out)
    replace BK3:=zk (blk_drew BK3.out)
    replace BK8:=zk (blk_drew BK8.out)
    replace HB:=zk (below_drew1 HB.out)
    refine start_ (n:=9) (S:=fun w'=>w'.cell? ⟨gb8,0,none⟩=some (.string ((rd_T32 t4 x15_1).f0))∧w'.cell? ⟨gb8,1,none⟩=some (.string ((rd_T32 t4 x15_1).f1))∧w'.cell? ⟨gb8,2,none⟩=some (.string ((rd_T32 t4 x15_1).f2))∧w'.cell? ⟨gb3,0,none⟩=some (.string x8004000_1)∧w'.cell? ⟨gb3,1,none⟩=some (.string x8004001_1)∧w'.cell? ⟨gb3,2,none⟩=some (.string x8004002_1)) (ds:=[]) #[false,false,false,false,false,false,false,false,false] (by kernel_rfl) rfl rfl ⟨(blk_cell BK8.out 0).trans rfl,(blk_cell BK8.out 1).trans rfl,(blk_cell BK8.out 2).trans rfl,(blk_cell BK3.out 0).trans rfl,(blk_cell BK3.out 1).trans rfl,(blk_cell BK3.out 2).trans rfl⟩ (fun hHeld=>?_);refine with_tabW impl_LeastModel.tab5 impl_LeastModel.bits5 (fun HT_ HW_=>?_)
    generalize w39.drew=w40 at HO_13 BK1 BK2 BK3 BK8 HB hHeld ⊢
    refine zy 0 (some 19) HT_.out ?_
    refine zy 1 (some 20) HT_.out ?_
    refine zy 2 (some 21) HT_.out ?_
    refine ztk 3 (some 22) HT_.out HW_.out hHeld ?_
    refine ztk 5 (some 24) HT_.out HW_.out hHeld ?_
    refine zon 4 (some 23) HT_.out (fun K hK=>?_)
    refine goes_ Tryz.func13 (by kernel_rfl) rfl #[.agg #[.string ((rd_T32 t4 x15_1).f0),.string ((rd_T32 t4 x15_1).f1),.string ((rd_T32 t4 x15_1).f2)]] (by rfl) rfl rfl za11 ?_
    with_reducible refine (impl_TotalLength.calls ((rd_T32 t4 x15_1).f0) ((rd_T32 t4 x15_1).f1) ((rd_T32 t4 x15_1).f2) t9 _ A18.out).mono ?_
    rintro e w41 ⟨rfl,hb⟩
    refine ⟨_,rfl,?_⟩
    replace HO_13:=zk (Kd.R_below (za1 HO_13.out) hb)
    replace BK1:=yb BK1 hb
    replace BK2:=yb BK2 hb
    replace BK3:=yb BK3 hb
    replace BK8:=yb BK8 hb
    replace HB:=yB HB hb
    (try clear hb)
    (try clear hb2)
    (try clear hk)
    (try clear hi)
    refine hK.out _ _ ⟨(blk_cell BK8.out 0).trans rfl,(blk_cell BK8.out 1).trans rfl,(blk_cell BK8.out 2).trans rfl,(blk_cell BK3.out 0).trans rfl,(blk_cell BK3.out 1).trans rfl,(blk_cell BK3.out 2).trans rfl⟩ (fun hHeld=>?_)
    clear hK K
    refine zno (some 23) ?_
    refine zon 6 (some 25) HT_.out (fun K hK=>?_)
    refine goes_ Tryz.func13 (by kernel_rfl) rfl #[.agg #[.string x8004000_1,.string x8004001_1,.string x8004002_1]] (by rfl) rfl rfl za11 ?_
    with_reducible refine (impl_TotalLength.calls x8004000_1 x8004001_1 x8004002_1 t10 _ A19.out).mono ?_
    rintro e w42 ⟨rfl,hb⟩
    refine ⟨_,rfl,?_⟩
    replace HO_13:=zk (Kd.R_below (za1 HO_13.out) hb)
    replace BK1:=yb BK1 hb
    replace BK2:=yb BK2 hb
    replace BK3:=yb BK3 hb
    replace BK8:=yb BK8 hb
    replace HB:=yB HB hb
    (try clear hb)
    (try clear hb2)
    (try clear hk)
    (try clear hi)
    refine hK.out _ _ ⟨(blk_cell BK8.out 0).trans rfl,(blk_cell BK8.out 1).trans rfl,(blk_cell BK8.out 2).trans rfl,(blk_cell BK3.out 0).trans rfl,(blk_cell BK3.out 1).trans rfl,(blk_cell BK3.out 2).trans rfl⟩ (fun hHeld=>?_)
    clear hK K
    refine zno (some 25) ?_
    refine zy 7 (some 26) HT_.out ?_
    refine zy 8 (some 27) HT_.out ?_
    refine done_ (done_of HT_.out (by kernel_rfl)) ?_
    try go_wp2
    go_roundg k1
    case measure=>have:=HK1.out;omega
    case rel=>exact ⟨(true),(wrap64 (x15_1+1)),(x8004000_1),(x8004001_1),(x8004002_1),(by (rfl)),(by (rfl)),H',⟨za43⟩,⟨by (with_reducible repeat ((apply Kd.R_alloc)));exact Kd.R_mono HO_13.out (fun _ hk=>⟨hk.1,hk.2.1⟩)⟩,⟨za3 BK1.out⟩,⟨za3 BK2.out⟩,⟨za3 BK3.out⟩,⟨za15⟩⟩
   ·replace c17:=Bool.eq_false_iff.mpr c17
    subst c17
    rw [if_neg zff] at H
    try dsimp only at H
    have H':=zk H
    clear H
    have p8007:0≤(x15_1:Int):=of_decide_eq_true za25
    have q8007:x15_1 < (t4.length:Int):=of_decide_eq_true za25
    obtain ⟨ad8007,e8007,hx8007_0,hx8007_1,hx8007_2⟩:=at_T32 (Kd.R_reads' HO_13.out).2.2 x15_1 p8007 q8007
    cases e8007
    replace p8007:=eq_true p8007
    replace q8007:=eq_true q8007
    try go_wp2_with ((((with_reducible refine gate_dst (N:=9) rfl ?_);refine zE (cs:=#[.string ⟨#[]⟩,.string ⟨#[]⟩,.string ⟨#[]⟩]) (t:=32) ?_;intro gb8 hg w43 hbox hb;replace HO_13:=zk (Kd.R_below (Kd.R_elderB (za1 HO_13.out) gb8 (Nat.le_of_eq hg.symm)) hb);have BK8:=zk hbox;have GW8:=zk (zs (w:=w) hg za15);have GE8:=GW8;have NB1_8:=yn hg BK1;have NB8_1:=yp hg BK1;have NB2_8:=yn hg BK2;have NB8_2:=yp hg BK2;have NB3_8:=yn hg BK3;have NB8_3:=yp hg BK3;replace BK1:=yb BK1 hb;replace BK2:=yb BK2 hb;replace BK3:=yb BK3 hb;replace HB:=yB HB hb;clear hb hbox hg;have hnb44:=NB8_1.out;have hnc44:=NB1_8.out;have hnb45:=NB8_2.out;have hnc45:=NB2_8.out;have hnb46:=NB8_3.out;have hnc46:=NB3_8.out;obtain ⟨hcz47_0,hcz47_1,hcz47_2,hfz47_0,hfz47_1,hfz47_2⟩:=blk3 BK8.out)))
    have n0_:Aside0 (Kd.R k32 32 (((w43.setCell ⟨gb8,0,none⟩ (.string ((rd_T32 t4 x15_1).f0))).setCell ⟨gb8,1,none⟩ (.string ((rd_T32 t4 x15_1).f1))).setCell ⟨gb8,2,none⟩ (.string ((rd_T32 t4 x15_1).f2))) w.heap.size (fun k_=>k_ ≠ gb2∧k_ ≠ gb3∧k_ ≠ gb8) (.slice (some ad8007) t4.length co13) t4):=⟨za62⟩
    have n1_:Aside0 ((((w43.setCell ⟨gb8,0,none⟩ (.string ((rd_T32 t4 x15_1).f0))).setCell ⟨gb8,1,none⟩ (.string ((rd_T32 t4 x15_1).f1))).setCell ⟨gb8,2,none⟩ (.string ((rd_T32 t4 x15_1).f2))).heap[gb1]? = some (.cells #[.slice A0_0 l0_0.length c0_0] 26 (0,0))):=⟨zpw BK1.out⟩
    have n2_:Aside0 ((((w43.setCell ⟨gb8,0,none⟩ (.string ((rd_T32 t4 x15_1).f0))).setCell ⟨gb8,1,none⟩ (.string ((rd_T32 t4 x15_1).f1))).setCell ⟨gb8,2,none⟩ (.string ((rd_T32 t4 x15_1).f2))).heap[gb2]? = some (.cells #[.string ⟨#[]⟩,.string ⟨#[]⟩,.string ⟨#[]⟩] 32 (0,0))):=⟨zpw BK2.out⟩
    have n3_:Aside0 ((((w43.setCell ⟨gb8,0,none⟩ (.string ((rd_T32 t4 x15_1).f0))).setCell ⟨gb8,1,none⟩ (.string ((rd_T32 t4 x15_1).f1))).setCell ⟨gb8,2,none⟩ (.string ((rd_T32 t4 x15_1).f2))).heap[gb3]? = some (.cells #[.string x8004000_1,.string x8004001_1,.string x8004002_1] 32 (0,0))):=⟨zpw BK3.out⟩
    have n4_:Aside0 ((((w43.setCell ⟨gb8,0,none⟩ (.string ((rd_T32 t4 x15_1).f0))).setCell ⟨gb8,1,none⟩ (.string ((rd_T32 t4 x15_1).f1))).setCell ⟨gb8,2,none⟩ (.string ((rd_T32 t4 x15_1).f2))).heap[gb8]? = some (.cells #[.string ((rd_T32 t4 x15_1).f0),.string ((rd_T32 t4 x15_1).f1),.string ((rd_T32 t4 x15_1).f2)] 32 (0,0))):=⟨zpu BK8.out⟩
    have n5_:Aside0 (Below w.heap.size w (((w43.setCell ⟨gb8,0,none⟩ (.string ((rd_T32 t4 x15_1).f0))).setCell ⟨gb8,1,none⟩ (.string ((rd_T32 t4 x15_1).f1))).setCell ⟨gb8,2,none⟩ (.string ((rd_T32 t4 x15_1).f2)))):=⟨za15⟩
    (try clear HO_13)
    (try clear BK1)
    (try clear BK2)
    (try clear BK3)
    (try clear BK8)
    (try clear HB)
    generalize (((w43.setCell ⟨gb8,0,none⟩ (.string ((rd_T32 t4 x15_1).f0))).setCell ⟨gb8,1,none⟩ (.string ((rd_T32 t4 x15_1).f1))).setCell ⟨gb8,2,none⟩ (.string ((rd_T32 t4 x15_1).f2)))=w48 at n0_ n1_ n2_ n3_ n4_ n5_ ⊢
    have HO_13:=n0_
    have BK1:=n1_
    have BK2:=n2_
    have BK3:=n3_
    have BK8:=n4_
    have HB:=n5_
    clear n0_ n1_ n2_ n3_ n4_ n5_
    replace HO_13:=zk (Kd.R_drew HO_13.out)
    replace BK1:=zk (blk_drew BK1.out)
    replace BK2:=zk (blk_drew BK2.out)
    replace BK3:=zk (blk_drew BK3.out)
    replace BK8:=zk (blk_drew BK8.out)
    replace HB:=zk (below_drew1 HB.out)
    refine start_ (n:=9) (S:=fun w'=>True) (ds:=[]) #[false,false,false,false,false,false,false,false,false] (by kernel_rfl) rfl rfl trivial (fun hHeld=>?_);refine with_tabW impl_LeastModel.tab5 impl_LeastModel.bits5 (fun HT_ HW_=>?_)
    generalize w48.drew=w49 at HO_13 BK1 BK2 BK3 BK8 HB hHeld ⊢
    refine zy 0 (some 19) HT_.out ?_
    refine zy 1 (some 20) HT_.out ?_
    refine zy 2 (some 21) HT_.out ?_
    refine zyu 3 (some 22) HT_.out ?_
    refine zyu 4 (some 23) HT_.out ?_
    refine zyu 5 (some 24) HT_.out ?_
    refine zyu 6 (some 25) HT_.out ?_
    refine zyu 7 (some 26) HT_.out ?_
    refine zy 8 (some 27) HT_.out ?_
    refine done_ (done_of HT_.out (by kernel_rfl)) ?_
    obtain ⟨hcz50_0,hcz50_1,hcz50_2,hfz50_0,hfz50_1,hfz50_2⟩:=blk3 BK8.out
    have hnb51:=NB3_1.out
    have hnc51:=NB1_3.out
    have hnb52:=NB3_2.out
    have hnc52:=NB2_3.out
    obtain ⟨hcz53_0,hcz53_1,hcz53_2,hfz53_0,hfz53_1,hfz53_2⟩:=blk3 BK3.out
    try go_wp2
    go_roundg k1
    case measure=>have:=HK1.out;omega
    case rel=>exact ⟨(true),(wrap64 (x15_1+1)),((rd_T32 t4 x15_1).f0),((rd_T32 t4 x15_1).f1),((rd_T32 t4 x15_1).f2),(by (rfl)),(by (rfl)),H',⟨za43⟩,⟨za78⟩,⟨zpw BK1.out⟩,⟨zpw BK2.out⟩,⟨zpu BK3.out⟩,⟨za15⟩⟩
   ·rw [if_neg c16] at H
    exact absurd H (by simp)
   ·rw [if_neg c15] at H
    exact absurd H (by simp)
   ·rw [if_neg c14] at H
    have c14b0:=zdnl c14
    clear c14
    simp only [Option.some.injEq,Prod.mk.injEq] at H
    obtain ⟨rfl,rfl,rfl,rfl⟩:=H
    have hnb54:=NB3_1.out
    have hnc54:=NB1_3.out
    have hnb55:=NB3_2.out
    have hnc55:=NB2_3.out
    obtain ⟨hcz56_0,hcz56_1,hcz56_2,hfz56_0,hfz56_1,hfz56_2⟩:=blk3 BK3.out
    have hnb57:=NB2_1.out
    have hnc57:=NB1_2.out
    obtain ⟨hcz58_0,hcz58_1,hcz58_2,hfz58_0,hfz58_1,hfz58_2⟩:=blk3 BK2.out
    go_wp2
    refine bodyPost_ret (results_ct rfl _ _ gb2 32 #[.string x8004000_1,.string x8004001_1,.string x8004002_1] (0,0) _ rfl (zpu BK2.out) Tryz.underlying32 rfl (by kernel_rfl)) rfl ?_
    exact ⟨by (rfl),za15⟩
def impl_FirstModel.f (k:Nat) (l0_0:List (S56)) (a1:Int):Option (ByteArray × ByteArray × ByteArray × Bool):=(impl_ModelsUpTo.f k l0_0 a1).bind fun t9003=>(if (t9003.length:Int)=0 then (some ((⟨#[]⟩:ByteArray),(⟨#[]⟩:ByteArray),(⟨#[]⟩:ByteArray),false)) else (if 0 < (t9003.length:Int) then (some ((rd_T32 t9003 0).f0,(rd_T32 t9003 0).f1,(rd_T32 t9003 0).f2,true)) else (none)))
theorem impl_FirstModel.calls (k:Nat) (A0_0:Option Addr) (c0_0:Nat) (l0_0:List (S56)) (a1:Int) (r1:ByteArray) (r2:ByteArray) (r3:ByteArray) (r4:Bool) (w:World) (hr0_0:Kd.C k56 w A0_0 l0_0.length l0_0) (hc0_0:l0_0.length≤c0_0) (h:impl_FirstModel.f k l0_0 a1=some (r1,r2,r3,r4)) :
  Calls Tryz.prog 9 #[.agg #[.slice A0_0 l0_0.length c0_0],.int .i64 a1] w fun e w'=>e = .returned (.tuple #[.agg #[.string r1,.string r2,.string r3],.bool r4])∧Below w.heap.size w w':=by
 have hu26:=Tryz.underlying26
 have hu32:=Tryz.underlying32
 have HR0_0:=zk hr0_0
 have HC0_0:=zk hc0_0
 clear hr0_0 hc0_0
 have HB:=zk (Below.refl w.heap.size w)
 have H:=h
 unfold impl_FirstModel.f at H
 clear h
 go_enter Tryz.func9,Tryz.ntmps9
 go_upto_region 1 with (first|((with_reducible refine gate_dst (N:=2) rfl ?_);refine zE (cs:=#[.slice A0_0 l0_0.length c0_0]) (t:=26) ?_;intro gb1 hg w5 hbox hb;have BK1:=zk hbox;have GW1:=zk (zs (w:=w) hg za15);have GE1:=GW1;replace HB:=yB HB hb;clear hb hbox hg)|((with_reducible refine gate_dst (N:=4) rfl ?_);refine zE (cs:=#[.string ⟨#[]⟩,.string ⟨#[]⟩,.string ⟨#[]⟩]) (t:=32) ?_;intro gb2 hg w6 hbox hb;have BK2:=zk hbox;have GW2:=zk (zs (w:=w) hg za15);have GE2:=GW2;have NB1_2:=yn hg BK1;have NB2_1:=yp hg BK1;replace BK1:=yb BK1 hb;replace HB:=yB HB hb;clear hb hbox hg;have hnb7:=NB1_2.out;have hnc7:=NB2_1.out;obtain ⟨hcz8_0,hfz8_0⟩:=blk1 BK1.out))
 obtain ⟨t3,A3,H⟩:=zO H
 try dsimp only at H
 by_cases c4:(t3.length:Int)=0
 ·rw [if_pos c4] at H
  have c4b0:=zbt c4
  have c4b1:=zqn c4
  clear c4
  simp only [Option.some.injEq,Prod.mk.injEq] at H
  obtain ⟨rfl,rfl,rfl,rfl⟩:=H
  go_wp2_with ((((with_reducible refine gate_callee (f:=6) rfl ?_);refine zg (some 9) Tryz.func6 #[.agg #[.slice A0_0 l0_0.length c0_0],.int .i64 a1] rfl za11 ?_;(with_reducible refine (impl_ModelsUpTo.calls k _ _ l0_0 a1 t3 _ ?side1 ?side2 A3.out).mono ?_);(case side1=>repeat ((exact (Kd.C_below HR0_0.out HB.out))));(case side2=>exact HC0_0.out);rintro e w9 ⟨v4,rfl,ho0,hb⟩;refine ⟨_,rfl,?_⟩;have HO5:=zk (Kd.R_lower (Kd.R_newB ho0 (g:=gb2) (o:=.cells #[.string ⟨#[]⟩,.string ⟨#[]⟩,.string ⟨#[]⟩] 32 (0,0)) (za3 BK2.out)) (below_size za15));replace BK1:=yb BK1 hb;replace BK2:=yb BK2 hb;replace HB:=yB HB hb;(try clear hb ho0);obtain ⟨Ao10,co10,eo10⟩:=Kd.R_slice HO5.out;subst eo10;obtain ⟨hcz11_0,hcz11_1,hcz11_2,hfz11_0,hfz11_1,hfz11_2⟩:=blk3 BK2.out)))
  refine bodyPost_ret (results_ct rfl _ _ gb2 32 #[.string ⟨#[]⟩,.string ⟨#[]⟩,.string ⟨#[]⟩] (0,0) _ rfl (zpu BK2.out) Tryz.underlying32 rfl (by kernel_rfl)) rfl ?_
  exact ⟨by (rfl),za15⟩
 rw [if_neg c4] at H
 have c4b0:=zbn c4
 have c4b1:=zqt c4
 have c4b2:¬ (t3 = []):=fun h_=>c4 (by rw [h_];rfl)
 by_cases c12:0 < (t3.length:Int)
 ·rw [if_pos c12] at H
  have c12b0:=zdl c12
  have c12b1:decide (0 < t3.length)=true:=decide_eq_true (by omega)
  clear c12
  simp only [Option.some.injEq,Prod.mk.injEq] at H
  obtain ⟨rfl,rfl,rfl,rfl⟩:=H
  go_wp2_with ((((with_reducible refine gate_callee (f:=6) rfl ?_);refine zg (some 9) Tryz.func6 #[.agg #[.slice A0_0 l0_0.length c0_0],.int .i64 a1] rfl za11 ?_;(with_reducible refine (impl_ModelsUpTo.calls k _ _ l0_0 a1 t3 _ ?side1 ?side2 A3.out).mono ?_);(case side1=>repeat ((exact (Kd.C_below HR0_0.out HB.out))));(case side2=>exact HC0_0.out);rintro e w17 ⟨v4,rfl,ho0,hb⟩;refine ⟨_,rfl,?_⟩;have HO5:=zk (Kd.R_lower (Kd.R_newB ho0 (g:=gb2) (o:=.cells #[.string ⟨#[]⟩,.string ⟨#[]⟩,.string ⟨#[]⟩] 32 (0,0)) (za3 BK2.out)) (below_size za15));replace BK1:=yb BK1 hb;replace BK2:=yb BK2 hb;replace HB:=yB HB hb;(try clear hb ho0);obtain ⟨Ao18,co18,eo18⟩:=Kd.R_slice HO5.out;subst eo18;have p9006:0≤(0:Int):=(by omega);have q9006:0 < (t3.length:Int):=of_decide_eq_true za25;obtain ⟨ad9006,e9006,hx9006_0,hx9006_1,hx9006_2⟩:=at_T32 (Kd.R_reads' HO5.out).2.2 0 p9006 q9006;cases e9006;have qi9006:(0 < t3.length)=True:=eq_true (by omega);(try rw [show ((0:Int)).toNat=0 from rfl] at hx9006_0);(try rw [show 0 * 3=0 from rfl] at hx9006_0);(try rw [Addr.add_zero'] at hx9006_0);(try rw [show ((0:Int)).toNat=0 from rfl] at hx9006_1);(try rw [show 0 * 3=0 from rfl] at hx9006_1);(try rw [Addr.add_zero'] at hx9006_1);(try rw [show ((0:Int)).toNat=0 from rfl] at hx9006_2);(try rw [show 0 * 3=0 from rfl] at hx9006_2);(try rw [Addr.add_zero'] at hx9006_2);replace p9006:=eq_true p9006;replace q9006:=eq_true q9006;obtain ⟨hcz19_0,hcz19_1,hcz19_2,hfz19_0,hfz19_1,hfz19_2⟩:=blk3 BK2.out)))
  refine bodyPost_ret (results_ct rfl _ _ gb2 32 #[.string ((rd_T32 t3 0).f0),.string ((rd_T32 t3 0).f1),.string ((rd_T32 t3 0).f2)] (0,0) _ rfl (zpu BK2.out) Tryz.underlying32 rfl (by kernel_rfl)) rfl ?_
  exact ⟨by (rfl),za15⟩
 ·rw [if_neg c12] at H
  exact absurd H (by simp)
theorem eqA32 (d:Nat) (w:World) (x0 y0:ByteArray) (x1 y1:ByteArray) (x2 y2:ByteArray) :
  (Op.equalIn (d+2) 32 (.agg #[.string x0,.string x1,.string x2]) (.agg #[.string y0,.string y1,.string y2])).run Tryz.prog w = .ok (x0.toList == y0.toList && (x1.toList == y1.toList && (x2.toList == y2.toList))) w:=by
 refine eqA_of Tryz.underlying32 (by kernel_rfl) ?_
 refine eqf_cons (by rfl) (by go_simp;rfl) (by go_simp;rfl) (by go_simp) ?_
 refine eqf_cons (by rfl) (by go_simp;rfl) (by go_simp;rfl) (by go_simp) ?_
 exact eqf_last (by rfl) (by go_simp;rfl) (by go_simp;rfl) (by go_simp)
end Go.Proofs.YtcbjhfoeecfcoaaGreat.A
namespace Go.Proofs.YtcbjhfoeecfcoaaGreat.A
open Go.RowKit YtcbjhfoeecfcoaaGreat.Ext YtcbjhfoeecfcoaaGreatW.PrintWords YtcbjhfoeecfcoaaGreatW.PrintLast YtcbjhfoeecfcoaaGreatW.PrintMore
attribute [local go_sem] max2_int min2_int max_two min_two max_three min_three max_four min_four
attribute [local go_sem high] eqA32
mutual
def laws_FnModels.j0:Nat→List Int→List (S32)→List (S32)→Bool→Bool→List (S56)→ByteArray→ByteArray→ByteArray→ByteArray→ByteArray→ByteArray→Option (Bool)
 | 0,_,_,_,_,_,_,_,_,_,_,_,_=>none
 | k+1,x0,x5,x6,x8,x62,x3007000,x3018000,x3018001,x3018002,x3023000,x3023001,x3023002=>if x62=true then (some false) else (laws_FnModels.l0 k x0 x5 x6 x8 0 x3007000 x3018000 x3018001 x3018002 x3023000 x3023001 x3023002)
def laws_FnModels.l0:Nat→List Int→List (S32)→List (S32)→Bool→Int→List (S56)→ByteArray→ByteArray→ByteArray→ByteArray→ByteArray→ByteArray→Option (Bool)
 | 0,_,_,_,_,_,_,_,_,_,_,_,_=>none
 | k+1,x0,x5,x6,x8,x11,x3007000,x3018000,x3018001,x3018002,x3023000,x3023001,x3023002=>if x11 < (x5.length:Int) then (if 0≤x11 then (if x11 < (x6.length:Int) then (if (!((((rd_T32 x5 x11).f0).toList) == (((rd_T32 x6 x11).f0).toList)) || (!((((rd_T32 x5 x11).f1).toList) == (((rd_T32 x6 x11).f1).toList)) || (!((((rd_T32 x5 x11).f2).toList) == (((rd_T32 x6 x11).f2).toList)))))=true then (some false) else ((impl_IsModel.f k x3007000 ((rd_T32 x5 x11).f0) ((rd_T32 x5 x11).f1) ((rd_T32 x5 x11).f2)).bind fun t3028=>(if t3028=true then ((impl_TotalLength.f ((rd_T32 x5 x11).f0) ((rd_T32 x5 x11).f1) ((rd_T32 x5 x11).f2)).bind fun t3030=>((impl_TotalLength.f x3018000 x3018001 x3018002).bind fun t3031=>(if t3030 < t3031 then (some false) else (laws_FnModels.l0 k x0 x5 x6 x8 (wrap64 (x11+1)) x3007000 x3018000 x3018001 x3018002 x3023000 x3023001 x3023002)))) else (some false)))) else (none)) else (none)) else ((spec_DrawIsModel.f k x0).bind fun bt3032=>(if x8=true then (if 0 < (x5.length:Int) then (if (x3023000.toList == (((rd_T32 x5 0).f0).toList) && (x3023001.toList == (((rd_T32 x5 0).f1).toList) && (x3023002.toList == (((rd_T32 x5 0).f2).toList))))=true then ((impl_IsModel.f k x3007000 x3018000 x3018001 x3018002).bind fun t3041=>(if t3041=true then ((impl_IsModel.f k bt3032.1 bt3032.2.1 bt3032.2.2.1 bt3032.2.2.2).bind fun t3042=>((spec_IsModel.f k bt3032.1 bt3032.2.1 bt3032.2.2.1 bt3032.2.2.2).bind fun t3043=>(some (t3042 == t3043)))) else (some false))) else (some false)) else (none)) else ((impl_IsModel.f k bt3032.1 bt3032.2.1 bt3032.2.2.1 bt3032.2.2.2).bind fun t3044=>((spec_IsModel.f k bt3032.1 bt3032.2.1 bt3032.2.2.1 bt3032.2.2.2).bind fun t3045=>(some (t3044 == t3045))))))
end
def laws_FnModels.f (k:Nat) (l0:List Int):Option (Bool):=(laws_big.f l0).bind fun t3001=>(if t3001=true then (some true) else ((spec_DrawModelsUpTo.f k l0).bind fun bt3002=>((impl_ModelsUpTo.f k bt3002.1 bt3002.2).bind fun t3007=>((spec_ModelsUpTo.f k bt3002.1 bt3002.2).bind fun t3010=>((impl_LeastModel.f k bt3002.1 bt3002.2).bind fun bt3013=>((impl_FirstModel.f k bt3002.1 bt3002.2).bind fun bt3018=>(if (t3007.length:Int)=(t3010.length:Int) then (if (bt3013.2.2.2 != (decide ((t3007.length:Int) > 0)))=true then (laws_FnModels.j0 k l0 t3007 t3010 bt3013.2.2.2 true bt3002.1 bt3013.1 bt3013.2.1 bt3013.2.2.1 bt3018.1 bt3018.2.1 bt3018.2.2.1) else (if (bt3018.2.2.2 != bt3013.2.2.2)=true then (laws_FnModels.j0 k l0 t3007 t3010 bt3013.2.2.2 true bt3002.1 bt3013.1 bt3013.2.1 bt3013.2.2.1 bt3018.1 bt3018.2.1 bt3018.2.2.1) else ((impl_BoundOf.f k bt3002.1).bind fun t3023=>((spec_BoundOf.f k bt3002.1).bind fun t3024=>(laws_FnModels.j0 k l0 t3007 t3010 bt3013.2.2.2 (t3023 != t3024) bt3002.1 bt3013.1 bt3013.2.1 bt3013.2.2.1 bt3018.1 bt3018.2.1 bt3018.2.2.1))))) else (laws_FnModels.j0 k l0 t3007 t3010 bt3013.2.2.2 true bt3002.1 bt3013.1 bt3013.2.1 bt3013.2.2.1 bt3018.1 bt3018.2.1 bt3018.2.2.1))))))))
def laws_FnModels.T8:Bool × List (List Nat × List Nat):=(true,[([],[]),([0],[0]),([],[]),([2],[2]),([1,3],[1,3]),([4],[4]),([5],[5]),([5],[5]),([7,5],[5,7]),([8,5],[5,8]),([6,9,5],[5,6,9]),([5,10],[5,10]),([11,5],[11]),([12],[12]),([12],[12]),([13,14,12],[12,13,14]),([12,15],[12,15]),([16,12],[16]),([17],[17]),([18,17,17],[17,18]),([17],[17]),([20,19,17],[17,20]),([19,21,17],[17,19,21]),([17,22],[17,22])])
def laws_FnModels.B8:List Nat:=[0,1,0,4,15,31,63,63,191,447,1023,2047,4095,8191,8191,32767,65535,131071,262143,524287,262143,2097151,4194303,8388607]
theorem laws_FnModels.tab8:rtab .any (opsOf Tryz.f3 8)=laws_FnModels.T8:=by kernel_rfl
theorem laws_FnModels.bits8:waitsOk laws_FnModels.T8.2 laws_FnModels.B8=true:=by kernel_rfl
def laws_FnModels.T13:Bool × List (List Nat × List Nat):=(true,[([],[]),([],[]),([0,1],[0,1]),([2],[2]),([],[]),([],[]),([4,5],[4,5]),([6],[6]),([3,7],[3,7]),([8],[8]),([9],[9]),([9],[9]),([9],[9]),([11,12,9],[9,11,12]),([13,9],[9,13]),([10,14,9,9],[9,10,14]),([15,9],[9,15]),([9,16],[9,16]),([17,15],[17]),([18],[18]),([18],[18]),([19,20,18],[18,19,20]),([21,18],[18,21]),([22,18,18],[18,22]),([18],[18]),([24,23,18],[18,24]),([23,25,18],[18,23,25]),([18,26],[18,26])])
def laws_FnModels.B13:List Nat:=[0,0,3,7,0,0,48,112,255,511,1023,1023,1023,7167,15359,32767,65535,131071,262143,524287,524287,2097151,4194303,8388607,524287,33554431,67108863,134217727]
theorem laws_FnModels.tab13:rtab .any (opsOf Tryz.f3 13)=laws_FnModels.T13:=by kernel_rfl
theorem laws_FnModels.bits13:waitsOk laws_FnModels.T13.2 laws_FnModels.B13=true:=by kernel_rfl
def laws_FnModels.T16:Bool × List (List Nat × List Nat):=(true,[([],[]),([0],[0]),([1],[1]),([2],[2]),([2],[2]),([4,2],[2,4]),([5,2],[2,5]),([3,6,2],[2,3,6]),([7,2,2],[2,7]),([8],[8]),([8],[8]),([9,10,8,8],[8,9,10]),([8,11,2],[2,8,11]),([2,12],[2,12]),([13,11],[13]),([14],[14]),([14],[14]),([15,16,14,14],[14,15,16]),([14],[14]),([14],[14]),([18,19,17,14],[14,18,19]),([17,20,14],[14,17,20]),([14,21],[14,21]),([22,20,0,1,2,3,4,5,6,7,8,9,10,11,12,13,14,15,16,17,18,19,20,21,22],[22])])
def laws_FnModels.B16:List Nat:=[0,1,3,7,7,23,55,127,255,511,511,2047,4095,8191,16383,32767,32767,131071,32767,32767,1048575,2097151,4194303,8388607]
theorem laws_FnModels.tab16:rtab .any (opsOf Tryz.f3 16)=laws_FnModels.T16:=by kernel_rfl
theorem laws_FnModels.bits16:waitsOk laws_FnModels.T16.2 laws_FnModels.B16=true:=by kernel_rfl
theorem laws_FnModels.j0_no {k:Nat} {y0:List Int} {y1:List (S32)} {y2:List (S32)} {y3:Bool} {y5:List (S56)} {y6:ByteArray} {y7:ByteArray} {y8:ByteArray} {y9:ByteArray} {y10:ByteArray} {y11:ByteArray} {r:Bool} (h:laws_FnModels.j0 k y0 y1 y2 y3 true y5 y6 y7 y8 y9 y10 y11=some r):false=r:=by
 cases k with
 | zero=>simp [laws_FnModels.j0] at h
 | succ k=>simpa [laws_FnModels.j0] using h
theorem laws_FnModels.calls (k:Nat) (A0:Option Addr) (c0:Nat) (l0:List Int) (r:Bool) (w:World) (hr0:Kd.C (Kd.int .u8) w A0 l0.length l0) (hc0:l0.length≤c0) (h:laws_FnModels.f k l0=some r) (hr_:r=true) :
  Calls Tryz.prog 3 #[.slice A0 l0.length c0] w fun e w'=>e = .returned (.bool r)∧Below w.heap.size w w':=by
 have HRT_:=zk hr_
 clear hr_
 have hu26:=Tryz.underlying26
 have hu32:=Tryz.underlying32
 have HR0:=zk hr0
 have HC0:=zk hc0
 clear hr0 hc0
 have HB:=zk (Below.refl w.heap.size w)
 have H:=h
 unfold laws_FnModels.f at H
 clear h
 obtain ⟨t1,A2,H⟩:=zO H
 try dsimp only at H
 by_cases c3:t1=true
 ·subst c3
  rw [if_pos rfl] at H
  try dsimp only at H
  obtain rfl:=zi H
  go_enter Tryz.func3,Tryz.ntmps3
  go_wp2_with ((((with_reducible refine gate_callee (f:=4) rfl ?_);refine zg (some 15) Tryz.func4 #[.slice A0 l0.length c0] rfl za11 ?_;(with_reducible refine (laws_big.calls _ _ l0 _ _ ?side1 ?side2 A2.out).mono ?_);(case side1=>repeat ((exact HR0.out)));(case side2=>exact HC0.out);rintro e w' ⟨rfl,⟨nd,rfl⟩⟩;refine ⟨_,rfl,?_⟩)))
  go_ret
  exact ⟨by (rfl),za10⟩
 ·replace c3:=Bool.eq_false_iff.mpr c3
  subst c3
  rw [if_neg zff] at H
  try dsimp only at H
  obtain ⟨⟨t2,t5⟩,A4,H⟩:=zO H
  try dsimp only at H
  obtain ⟨t7,A5,H⟩:=zO H
  try dsimp only at H
  obtain ⟨t10,A6,H⟩:=zO H
  try dsimp only at H
  obtain ⟨⟨t13,t14,t15,t16⟩,A7,H⟩:=zO H
  try dsimp only at H
  obtain ⟨⟨t18,t19,t20,t21⟩,A8,H⟩:=zO H
  try dsimp only at H
  have HC9:=zk H
  clear H
  go_enter Tryz.func3,Tryz.ntmps3
  go_upto_region 8 with (first|((with_reducible refine gate_callee (f:=4) rfl ?_);refine zg (some 15) Tryz.func4 #[.slice A0 l0.length c0] rfl za11 ?_;(with_reducible refine (laws_big.calls _ _ l0 _ _ ?side1 ?side2 A2.out).mono ?_);(case side1=>repeat ((exact HR0.out)));(case side2=>exact HC0.out);rintro e w' ⟨rfl,⟨nd,rfl⟩⟩;refine ⟨_,rfl,?_⟩)|((with_reducible refine gate_callee (f:=5) rfl ?_);refine zg (some 18) Tryz.func5 #[.slice A0 l0.length c0] rfl za11 ?_;(with_reducible refine (spec_DrawModelsUpTo.calls k _ _ l0 t2 t5 _ ?side1 ?side2 A4.out).mono ?_);(case side1=>repeat ((exact HR0.out)));(case side2=>exact HC0.out);rintro e w10 ⟨v3,rfl,ho0,hb⟩;refine ⟨_,rfl,?_⟩;have HO4:=zk (Kd.N_lower (Kd.N_mono (ok':=fun k_=>True) ho0 (fun k_ hk_=>trivial)) (below_size za10));replace HB:=yB HB hb;(try clear hb ho0))|((with_reducible refine gate_dst (N:=3) rfl ?_);(try (refine gate_guard (by rfl) ?_;dsimp only));refine zE (cs:=#[.slice none 0 0]) (t:=26) ?_;intro gb6 hg w11 hbox hb;replace HO4:=zk (Kd.N_below (Kd.N_elderB (za4 HO4.out) gb6 (Nat.le_of_eq hg.symm)) hb);have BK6:=zk hbox;have GW6:=zk (zs (w:=w) hg za10);have GE6:=GW6;replace HB:=yB HB hb;clear hb hbox hg;obtain ⟨Ao12,co12,eo12⟩:=Kd.N_slice HO4.out;subst eo12;obtain ⟨hcz13_0,hfz13_0⟩:=blk1 BK6.out)|((with_reducible refine gate_callee (f:=6) rfl ?_);refine zg (some 23) Tryz.func6 #[.agg #[.slice Ao12 t2.length co12],.int .i64 t5] rfl za11 ?_;(with_reducible refine (impl_ModelsUpTo.calls k _ _ t2 t5 t7 _ ?side1 ?side2 A5.out).mono ?_);(case side1=>refine (Kd.N_reads' (e:=56) (base:=w.heap.size) (ok:=fun k_=>(True∧k_ ≠ gb6)) (n:=t2.length) (c:=co12) ?_).2.2;exact za89);(case side2=>exact (Kd.N_reads' HO4.out).2.1);rintro e w14 ⟨v8,rfl,ho0,hb⟩;refine ⟨_,rfl,?_⟩;replace HO4:=zk (Kd.N_elder' za89 (Kd.R_base ho0) hb);have HO9:=zk (Kd.R_lower ho0 (below_size za10));replace BK6:=zk (blk_below (g:=gb6) (o:=.cells #[.slice Ao12 t2.length co12] 26 (0,0)) (zpu BK6.out) hb);replace HB:=yB HB hb;(try clear hb ho0);obtain ⟨hcz15_0,hfz15_0⟩:=blk1 BK6.out)|((with_reducible refine gate_callee (f:=7) rfl ?_);refine zg (some 26) Tryz.func7 #[.agg #[.slice Ao12 t2.length co12],.int .i64 t5] rfl za11 ?_;(with_reducible refine (spec_ModelsUpTo.calls k _ _ t2 t5 t10 _ ?side1 ?side2 A6.out).mono ?_);(case side1=>repeat ((exact (Kd.N_reads' HO4.out).2.2)));(case side2=>exact (Kd.N_reads' HO4.out).2.1);rintro e w16 ⟨v3011,rfl,ho0,hb⟩;refine ⟨_,rfl,?_⟩;replace HO4:=zk (Kd.N_elder' (za4 HO4.out) (Kd.R_base ho0) hb);have HO12:=zk (Kd.R_lower (Kd.R_new' ho0 (Kd.R_lt (za1 HO9.out))) (below_size za10));replace BK6:=yb BK6 hb;replace HO9:=zk (Kd.R_elder' (za1 HO9.out) (Kd.R_base ho0) hb);replace HB:=yB HB hb;(try clear hb ho0);obtain ⟨hcz17_0,hfz17_0⟩:=blk1 BK6.out)|((with_reducible refine gate_callee (f:=8) rfl ?_);refine zg (some 30) Tryz.func8 #[.agg #[.slice Ao12 t2.length co12],.int .i64 t5] rfl za11 ?_;(with_reducible refine (impl_LeastModel.calls k _ _ t2 t5 t13 t14 t15 t16 _ ?side1 ?side2 A7.out).mono ?_);(case side1=>repeat ((exact (Kd.N_reads' HO4.out).2.2)));(case side2=>exact (Kd.N_reads' HO4.out).2.1);rintro e w18 ⟨rfl,hb⟩;refine ⟨_,rfl,?_⟩;replace HO4:=zk (Kd.N_below (za4 HO4.out) hb);replace HO9:=zk (Kd.R_below (za1 HO9.out) hb);replace HO12:=zk (Kd.R_below (za1 HO12.out) hb);replace BK6:=yb BK6 hb;replace HB:=yB HB hb;(try clear hb))|((with_reducible refine gate_dst (N:=7) rfl ?_);(try (refine gate_guard (by rfl) ?_;dsimp only));refine zE (cs:=#[.string ⟨#[]⟩,.string ⟨#[]⟩,.string ⟨#[]⟩]) (t:=32) ?_;intro gb17 hg w19 hbox hb;replace HO4:=zk (Kd.N_below (Kd.N_elderB (za4 HO4.out) gb17 (Nat.le_of_eq hg.symm)) hb);replace HO9:=zk (Kd.R_below (Kd.R_elderB (za1 HO9.out) gb17 (Nat.le_of_eq hg.symm)) hb);replace HO12:=zk (Kd.R_below (Kd.R_elderB (za1 HO12.out) gb17 (Nat.le_of_eq hg.symm)) hb);have BK17:=zk hbox;have GW17:=zk (zs (w:=w) hg za10);have GE17:=GW17;have NB6_17:=yn hg BK6;have NB17_6:=yp hg BK6;replace BK6:=yb BK6 hb;replace HB:=yB HB hb;clear hb hbox hg;have hnb20:=NB17_6.out;have hnc20:=NB6_17.out;obtain ⟨hcz21_0,hcz21_1,hcz21_2,hfz21_0,hfz21_1,hfz21_2⟩:=blk3 BK17.out;obtain ⟨hcz22_0,hfz22_0⟩:=blk1 BK6.out)|((with_reducible refine gate_callee (f:=9) rfl ?_);refine zg (some 36) Tryz.func9 #[.agg #[.slice Ao12 t2.length co12],.int .i64 t5] rfl za11 ?_;(with_reducible refine (impl_FirstModel.calls k _ _ t2 t5 t18 t19 t20 t21 _ ?side1 ?side2 A8.out).mono ?_);(case side1=>refine (Kd.N_reads' (e:=56) (base:=w.heap.size) (ok:=fun k_=>((((True∧k_ ≠ gb6)∧some k_ ≠ (v8:Value).ownBlock)∧some k_ ≠ (v3011:Value).ownBlock)∧k_ ≠ gb17)) (n:=t2.length) (c:=co12) ?_).2.2;exact za82);(case side2=>exact (Kd.N_reads' HO4.out).2.1);rintro e w23 ⟨rfl,hb⟩;refine ⟨_,rfl,?_⟩;replace HO4:=zk (Kd.N_below za82 hb);replace HO9:=zk (Kd.R_below (by (with_reducible repeat ((apply Kd.R_alloc)));exact (Kd.R_mono (zfR (zfR (zfR (Kd.R_mono HO9.out (fun k_ hk=>(⟨hk,hk.2⟩:_∧k_ ≠ gb17)))))) (fun _ h_=>h_.1))) hb);replace HO12:=zk (Kd.R_below (by (with_reducible repeat ((apply Kd.R_alloc)));exact (Kd.R_mono (zfR (zfR (zfR (Kd.R_mono HO12.out (fun k_ hk=>(⟨hk,hk.2⟩:_∧k_ ≠ gb17)))))) (fun _ h_=>h_.1))) hb);replace BK6:=zk (blk_below (g:=gb6) (o:=.cells #[.slice Ao12 t2.length co12] 26 (0,0)) (zpw BK6.out) hb);replace BK17:=zk (blk_below (g:=gb17) (o:=.cells #[.string t13,.string t14,.string t15] 32 (0,0)) (zpu BK17.out) hb);replace HB:=yB HB hb;(try clear hb))|((with_reducible refine gate_dst (N:=9) rfl ?_);(try (refine gate_guard (by rfl) ?_;dsimp only));refine zE (cs:=#[.string ⟨#[]⟩,.string ⟨#[]⟩,.string ⟨#[]⟩]) (t:=32) ?_;intro gb22 hg w24 hbox hb;replace HO4:=zk (Kd.N_below (Kd.N_elderB (za4 HO4.out) gb22 (Nat.le_of_eq hg.symm)) hb);replace HO9:=zk (Kd.R_below (Kd.R_elderB (za1 HO9.out) gb22 (Nat.le_of_eq hg.symm)) hb);replace HO12:=zk (Kd.R_below (Kd.R_elderB (za1 HO12.out) gb22 (Nat.le_of_eq hg.symm)) hb);have BK22:=zk hbox;have GW22:=zk (zs (w:=w) hg za10);have GE22:=GW22;have NB6_22:=yn hg BK6;have NB22_6:=yp hg BK6;have NB17_22:=yn hg BK17;have NB22_17:=yp hg BK17;replace BK6:=yb BK6 hb;replace BK17:=yb BK17 hb;replace HB:=yB HB hb;clear hb hbox hg;have hnb25:=NB22_6.out;have hnc25:=NB6_22.out;have hnb26:=NB22_17.out;have hnc26:=NB17_22.out;obtain ⟨hcz27_0,hcz27_1,hcz27_2,hfz27_0,hfz27_1,hfz27_2⟩:=blk3 BK22.out))
  (try simp only [Act.put,zt,zu,zv])
  go_cut [62] (fun v62 wc=>∃ (kq:Nat) (x62_8:Bool),v62 = .bool x62_8∧Aside0 (laws_FnModels.j0 kq l0 t7 t10 t16 x62_8 t2 t13 t14 t15 t18 t19 t20=some r)∧Aside0 (kq≤k)∧Aside0 (Kd.R k32 32 wc w.heap.size (fun k_=>some k_ ≠ (v3011:Value).ownBlock∧k_ ≠ gb17∧k_ ≠ gb22) v8 t7)∧Aside0 (Kd.R k32 32 wc w.heap.size (fun k_=>some k_ ≠ (v8:Value).ownBlock∧k_ ≠ gb17∧k_ ≠ gb22) v3011 t10)∧Aside0 (Kd.N k56 56 wc w.heap.size (fun k_=>some k_ ≠ (v8:Value).ownBlock∧some k_ ≠ (v3011:Value).ownBlock∧k_ ≠ gb6∧k_ ≠ gb17∧k_ ≠ gb22) (.slice Ao12 t2.length co12) t2)∧Aside0 (wc.heap[gb6]? = some (.cells #[(.slice Ao12 t2.length co12)] 26 (0,0)))∧Aside0 (wc.heap[gb17]? = some (.cells #[.string t13,.string t14,.string t15] 32 (0,0)))∧Aside0 (wc.heap[gb22]? = some (.cells #[.string t18,.string t19,.string t20] 32 (0,0)))∧Aside0 (Below w.heap.size w wc))
  case first =>
   have H:=HC9.out
   clear HC9
   by_cases c28:(t7.length:Int)=(t10.length:Int)
   rw [if_pos c28] at H
   have c28b0:=zbt c28
   have c28b1:=zqn c28
   have c28b2:(t7.length == t10.length)=true:=by ((simp at c28 ⊢;omega))
   clear c28
   ((skip))
   by_cases c29:(t16 != (decide ((t7.length:Int) > 0)))=true
   · rw [if_pos c29] at H
     exact absurd ((laws_FnModels.j0_no H).trans HRT_.out) (by decide)
   rw [if_neg c29] at H
   have c29b0:(t16 != (decide ((t7.length:Int) > 0)))=false:=by simpa using c29
   (try (have c29b1:decide (t16=(decide ((t7.length:Int) > 0)))=true:=by simpa using c29))
   (try (have c29b2:(t16 == (decide ((t7.length:Int) > 0)))=true:=by simpa using c29))
   have c29y:(t16 == decide (0 < t7.length))=true:=by have h_:=c29b2;simpa using h_
   clear c29
   by_cases c34:(t21 != t16)=true
   · rw [if_pos c34] at H
     exact absurd ((laws_FnModels.j0_no H).trans HRT_.out) (by decide)
   · rw [if_neg c34] at H
     have c34b0:(t21 != t16)=false:=by simpa using c34
     (try (have c34b1:decide (t21=t16)=true:=by simpa using c34))
     (try (have c34b2:(t21 == t16)=true:=by simpa using c34))
     clear c34
     obtain ⟨t23,A39,H⟩:=zO H
     try dsimp only at H
     obtain ⟨t24,A40,H⟩:=zO H
     try dsimp only at H
     have H':=zk H
     clear H
     try go_wp2
     have n0_:Aside0 (Kd.N k56 56 (((w24.setCell ⟨gb22,0,none⟩ (.string t18)).setCell ⟨gb22,1,none⟩ (.string t19)).setCell ⟨gb22,2,none⟩ (.string t20)) w.heap.size (fun k_=>some k_ ≠ (v8:Value).ownBlock∧some k_ ≠ (v3011:Value).ownBlock∧k_ ≠ gb6∧k_ ≠ gb17∧k_ ≠ gb22) (.slice Ao12 t2.length co12) t2):=⟨by (with_reducible repeat ((apply Kd.N_alloc)));exact Kd.N_mono (zfN (zfN (zfN (Kd.N_mono HO4.out (fun k_ hk=>(⟨hk,hk.2⟩:_∧k_ ≠ gb22)))))) (fun _ hk=>⟨hk.1.1.1.1.2,⟨hk.1.1.1.2,⟨hk.1.1.1.1.1.2,⟨hk.1.1.2,hk.1.2⟩⟩⟩⟩)⟩
     have n1_:Aside0 (Kd.R k32 32 (((w24.setCell ⟨gb22,0,none⟩ (.string t18)).setCell ⟨gb22,1,none⟩ (.string t19)).setCell ⟨gb22,2,none⟩ (.string t20)) w.heap.size (fun k_=>some k_ ≠ (v3011:Value).ownBlock∧k_ ≠ gb17∧k_ ≠ gb22) v8 t7):=⟨by (with_reducible repeat ((apply Kd.R_alloc)));exact Kd.R_mono (zfR (zfR (zfR (Kd.R_mono HO9.out (fun k_ hk=>(⟨hk,hk.2⟩:_∧k_ ≠ gb22)))))) (fun _ hk=>⟨hk.1.1.1.2,⟨hk.1.1.2,hk.1.2⟩⟩)⟩
     have n2_:Aside0 (Kd.R k32 32 (((w24.setCell ⟨gb22,0,none⟩ (.string t18)).setCell ⟨gb22,1,none⟩ (.string t19)).setCell ⟨gb22,2,none⟩ (.string t20)) w.heap.size (fun k_=>some k_ ≠ (v8:Value).ownBlock∧k_ ≠ gb17∧k_ ≠ gb22) v3011 t10):=⟨by (with_reducible repeat ((apply Kd.R_alloc)));exact Kd.R_mono (zfR (zfR (zfR (Kd.R_mono HO12.out (fun k_ hk=>(⟨hk,hk.2⟩:_∧k_ ≠ gb22)))))) (fun _ hk=>⟨hk.1.1.1.2,⟨hk.1.1.2,hk.1.2⟩⟩)⟩
     have n3_:Aside0 ((((w24.setCell ⟨gb22,0,none⟩ (.string t18)).setCell ⟨gb22,1,none⟩ (.string t19)).setCell ⟨gb22,2,none⟩ (.string t20)).heap[gb6]? = some (.cells #[.slice Ao12 t2.length co12] 26 (0,0))):=⟨zpw BK6.out⟩
     have n4_:Aside0 ((((w24.setCell ⟨gb22,0,none⟩ (.string t18)).setCell ⟨gb22,1,none⟩ (.string t19)).setCell ⟨gb22,2,none⟩ (.string t20)).heap[gb17]? = some (.cells #[.string t13,.string t14,.string t15] 32 (0,0))):=⟨zpw BK17.out⟩
     have n5_:Aside0 ((((w24.setCell ⟨gb22,0,none⟩ (.string t18)).setCell ⟨gb22,1,none⟩ (.string t19)).setCell ⟨gb22,2,none⟩ (.string t20)).heap[gb22]? = some (.cells #[.string t18,.string t19,.string t20] 32 (0,0))):=⟨zpu BK22.out⟩
     have n6_:Aside0 (Below w.heap.size w (((w24.setCell ⟨gb22,0,none⟩ (.string t18)).setCell ⟨gb22,1,none⟩ (.string t19)).setCell ⟨gb22,2,none⟩ (.string t20))):=⟨za10⟩
     (try clear HO4)
     (try clear HO9)
     (try clear HO12)
     (try clear BK6)
     (try clear BK17)
     (try clear BK22)
     (try clear HB)
     generalize (((w24.setCell ⟨gb22,0,none⟩ (.string t18)).setCell ⟨gb22,1,none⟩ (.string t19)).setCell ⟨gb22,2,none⟩ (.string t20))=w41 at n0_ n1_ n2_ n3_ n4_ n5_ n6_ ⊢
     have HO4:=n0_
     have HO9:=n1_
     have HO12:=n2_
     have BK6:=n3_
     have BK17:=n4_
     have BK22:=n5_
     have HB:=n6_
     clear n0_ n1_ n2_ n3_ n4_ n5_ n6_
     replace HO4:=zk (Kd.N_drew HO4.out)
     replace HO9:=zk (Kd.R_drew HO9.out)
     replace HO12:=zk (Kd.R_drew HO12.out)
     replace BK6:=zk (blk_drew BK6.out)
     replace BK17:=zk (blk_drew BK17.out)
     replace BK22:=zk (blk_drew BK22.out)
     replace HB:=zk (below_drew1 HB.out)
     obtain ⟨Ao43,co43,eo43⟩:=Kd.R_slice HO9.out
     ((subst eo43))
     obtain ⟨Ao44,co44,eo44⟩:=Kd.R_slice HO12.out
     ((subst eo44))
     refine start_ (n:=24) (S:=fun w'=>w'.cell? ⟨gb6,0,none⟩=some (.slice Ao12 t2.length co12)) (ds:=[]) #[false,false,false,false,false,false,false,false,false,false,false,false,false,false,false,false,false,false,false,false,false,false,false,false] (by kernel_rfl) rfl rfl ((blk_cell BK6.out 0).trans rfl) (fun hHeld=>?_);refine with_tabW laws_FnModels.tab8 laws_FnModels.bits8 (fun HT_ HW_=>?_)
     generalize w41.drew=w42 at HO4 HO9 HO12 BK6 BK17 BK22 HB hHeld ⊢
     refine zy 0 (some 39) HT_.out ?_
     refine zy 1 (some 40) HT_.out ?_
     refine zy 2 (some 41) HT_.out ?_
     refine zy 3 (some 42) HT_.out ?_
     refine zy 4 (some 43) HT_.out ?_
     refine zy 5 (some 44) HT_.out ?_
     refine zy 6 (some 45) HT_.out ?_
     refine zy 7 (some 46) HT_.out ?_
     refine zy 8 (some 47) HT_.out ?_
     refine zy 9 (some 48) HT_.out ?_
     refine zy 10 (some 49) HT_.out ?_
     refine zy 11 (some 50) HT_.out ?_
     refine zy 12 (some 51) HT_.out ?_
     refine zy 13 (some 52) HT_.out ?_
     refine zy 14 (some 53) HT_.out ?_
     refine zy 15 (some 54) HT_.out ?_
     refine zy 16 (some 55) HT_.out ?_
     refine zy 17 (some 56) HT_.out ?_
     refine ztk 18 (some 57) HT_.out HW_.out hHeld ?_
     refine ztk 20 (some 59) HT_.out HW_.out hHeld ?_
     refine zon 19 (some 58) HT_.out (fun K hK=>?_)
     refine goes_ Tryz.func10 (by kernel_rfl) rfl #[.agg #[.slice Ao12 t2.length co12]] (by rfl) rfl rfl za11 ?_
     with_reducible refine (impl_BoundOf.calls k _ _ t2 t23 _ ?side1 ?side2 A39.out).mono ?_
     (case side1=>repeat ((exact (Kd.N_reads' HO4.out).2.2)))
     (case side2=>exact (Kd.N_reads' HO4.out).2.1)
     rintro e w45 ⟨rfl,hb⟩
     refine ⟨_,rfl,?_⟩
     replace HO4:=zk (Kd.N_below (za4 HO4.out) hb)
     replace HO9:=zk (Kd.R_below (za1 HO9.out) hb)
     replace HO12:=zk (Kd.R_below (za1 HO12.out) hb)
     replace BK6:=yb BK6 hb
     replace BK17:=yb BK17 hb
     replace BK22:=yb BK22 hb
     replace HB:=yB HB hb
     (try clear hb)
     (try clear hb2)
     (try clear hk)
     (try clear hi)
     refine hK.out _ _ ((blk_cell BK6.out 0).trans rfl) (fun hHeld=>?_)
     clear hK K
     refine zno (some 58) ?_
     refine zon 21 (some 60) HT_.out (fun K hK=>?_)
     refine goes_ Tryz.func11 (by kernel_rfl) rfl #[.agg #[.slice Ao12 t2.length co12]] (by rfl) rfl rfl za11 ?_
     with_reducible refine (spec_BoundOf.calls k _ _ t2 t24 _ ?side1 ?side2 A40.out).mono ?_
     (case side1=>repeat ((exact (Kd.N_reads' HO4.out).2.2)))
     (case side2=>exact (Kd.N_reads' HO4.out).2.1)
     rintro e w46 ⟨rfl,hb⟩
     refine ⟨_,rfl,?_⟩
     replace HO4:=zk (Kd.N_below (za4 HO4.out) hb)
     replace HO9:=zk (Kd.R_below (za1 HO9.out) hb)
     replace HO12:=zk (Kd.R_below (za1 HO12.out) hb)
     replace BK6:=yb BK6 hb
     replace BK17:=yb BK17 hb
     replace BK22:=yb BK22 hb
     replace HB:=yB HB hb
     (try clear hb)
     (try clear hb2)
     (try clear hk)
     (try clear hi)
     refine hK.out _ _ ((blk_cell BK6.out 0).trans rfl) (fun hHeld=>?_)
     clear hK K
     refine zno (some 60) ?_
     refine zy 22 (some 61) HT_.out ?_
     refine zy 23 (some 62) HT_.out ?_
     refine done_ (done_of HT_.out (by kernel_rfl)) ?_
     try go_wp2
     go_meet
     case rel=>exact ⟨_,((t23 != t24)),(by (rfl)),H',⟨by (omega)⟩,⟨za1 HO9.out⟩,⟨za1 HO12.out⟩,⟨za4 HO4.out⟩,⟨za3 BK6.out⟩,⟨za3 BK17.out⟩,⟨za3 BK22.out⟩,⟨za10⟩⟩
   · rw [if_neg c28] at H
     exact absurd ((laws_FnModels.j0_no H).trans HRT_.out) (by decide)
  case rest =>
   clear HC9
   try clear c3
   obtain ⟨kq,x62_8,rfl,HA,HJ8,HO_5,HO_6,HO_3007000,BK6,BK17,BK22,HB⟩:=hcut
   cases kq with
   | zero=>exact absurd HA.out (by simp [laws_FnModels.j0])
   | succ kj8 =>
    have H:=HA.out
    clear HA
    simp only [laws_FnModels.j0] at H
    by_cases c51:x62_8=true
    · subst c51
      have H1:(some false)=some r:=by rw [if_pos rfl] at H;exact H
      exact absurd ((zi H1).trans HRT_.out) (by decide)
    · replace c51:=Bool.eq_false_iff.mpr c51
      subst c51
      rw [if_neg zff] at H
      try dsimp only at H
      have H':=zk H
      clear H
      go_wp2
      try simp only [Act.put,zt,zv,zu]
      go_loopg [11] kj8 (fun kq v11 w'=>∃ (x11_2:Int),v11 = .int .i64 x11_2∧Aside0 (laws_FnModels.l0 kq l0 t7 t10 t16 x11_2 t2 t13 t14 t15 t18 t19 t20=some r)∧Aside0 (kq≤kj8)∧Aside0 (Kd.R k32 32 w' w.heap.size (fun k_=>some k_ ≠ (v3011:Value).ownBlock∧k_ ≠ gb17∧k_ ≠ gb22) v8 t7)∧Aside0 (Kd.R k32 32 w' w.heap.size (fun k_=>some k_ ≠ (v8:Value).ownBlock∧k_ ≠ gb17∧k_ ≠ gb22) v3011 t10)∧Aside0 (Kd.N k56 56 w' w.heap.size (fun k_=>some k_ ≠ (v8:Value).ownBlock∧some k_ ≠ (v3011:Value).ownBlock∧k_ ≠ gb6∧k_ ≠ gb17∧k_ ≠ gb22) (.slice Ao12 t2.length co12) t2)∧Aside0 (w'.heap[gb6]? = some (.cells #[(.slice Ao12 t2.length co12)] 26 (0,0)))∧Aside0 (w'.heap[gb17]? = some (.cells #[.string t13,.string t14,.string t15] 32 (0,0)))∧Aside0 (w'.heap[gb22]? = some (.cells #[.string t18,.string t19,.string t20] 32 (0,0)))∧Aside0 (Below w.heap.size w w'))
      case atStart=>exact ⟨(0),(by (rfl)),H',⟨Nat.le_refl _⟩,⟨za1 HO_5.out⟩,⟨za1 HO_6.out⟩,⟨za4 HO_3007000.out⟩,⟨za3 BK6.out⟩,⟨za3 BK17.out⟩,⟨za3 BK22.out⟩,⟨za10⟩⟩
      case round =>
       clear H'
       try clear c3
       try clear c51
       obtain ⟨x11_2,rfl,HA,HK2,HO_5,HO_6,HO_3007000,BK6,BK17,BK22,HB⟩:=hrel
       cases gk with
       | zero=>exact absurd HA.out (by simp [laws_FnModels.l0])
       | succ k2 =>
        have H:=HA.out
        clear HA
        simp only [laws_FnModels.l0] at H
        by_cases c52:x11_2 < (t7.length:Int)
        rw [if_pos c52] at H
        have c52b0:=zdl c52
        clear c52
        by_cases c53:0≤x11_2
        rw [if_pos c53] at H
        have c53b0:=zdle c53
        clear c53
        by_cases c54:x11_2 < (t10.length:Int)
        rw [if_pos c54] at H
        have c54b0:=zdl c54
        clear c54
        by_cases c55:(!((((rd_T32 t7 x11_2).f0).toList) == (((rd_T32 t10 x11_2).f0).toList)) || (!((((rd_T32 t7 x11_2).f1).toList) == (((rd_T32 t10 x11_2).f1).toList)) || (!((((rd_T32 t7 x11_2).f2).toList) == (((rd_T32 t10 x11_2).f2).toList)))))=true
        ·rw [if_pos c55] at H
         exact absurd ((zi H).trans HRT_.out) (by decide)
        rw [if_neg c55] at H
        have c55b0:(!((((rd_T32 t7 x11_2).f0).toList) == (((rd_T32 t10 x11_2).f0).toList)) || (!((((rd_T32 t7 x11_2).f1).toList) == (((rd_T32 t10 x11_2).f1).toList)) || (!((((rd_T32 t7 x11_2).f2).toList) == (((rd_T32 t10 x11_2).f2).toList)))))=false:=by simpa using c55
        clear c55
        obtain ⟨t28,A59,H⟩:=zO H
        try dsimp only at H
        by_cases c60:t28=true
        subst c60
        rw [if_pos rfl] at H
        try dsimp only at H
        obtain ⟨t30,A61,H⟩:=zO H
        try dsimp only at H
        obtain ⟨t31,A62,H⟩:=zO H
        try dsimp only at H
        by_cases c63:t30 < t31
        ·rw [if_pos c63] at H
         exact absurd ((zi H).trans HRT_.out) (by decide)
        ·rw [if_neg c63] at H
         have c63b0:=zdnl c63
         clear c63
         have H':=zk H
         clear H
         obtain ⟨Ao70,co70,eo70⟩:=Kd.R_slice HO_5.out
         subst eo70
         try go_wp2
         replace HO_5:=zk (Kd.R_drew HO_5.out)
         replace HO_6:=zk (Kd.R_drew HO_6.out)
         replace HO_3007000:=zk (Kd.N_drew HO_3007000.out)
         replace BK6:=zk (blk_drew BK6.out)
         replace BK17:=zk (blk_drew BK17.out)
         replace BK22:=zk (blk_drew BK22.out)
         replace HB:=zk (below_drew1 HB.out)
         have p3025:0≤(x11_2:Int):=of_decide_eq_true za25
         have q3025:x11_2 < (t7.length:Int):=of_decide_eq_true za25
         obtain ⟨ad3025,e3025,hx3025_0,hx3025_1,hx3025_2⟩:=at_T32 (Kd.R_reads' HO_5.out).2.2 x11_2 p3025 q3025
         cases e3025
         replace p3025:=eq_true p3025
         replace q3025:=eq_true q3025
         obtain ⟨Ao72,co72,eo72⟩:=Kd.R_slice HO_6.out
         ((subst eo72))
         have p3026:0≤(x11_2:Int):=of_decide_eq_true za25
         have q3026:x11_2 < (t10.length:Int):=of_decide_eq_true za25
         obtain ⟨ad3026,e3026,hx3026_0,hx3026_1,hx3026_2⟩:=at_T32 (Kd.R_reads' HO_6.out).2.2 x11_2 p3026 q3026
         cases e3026
         replace p3026:=eq_true p3026
         replace q3026:=eq_true q3026
         have p3027:0≤(x11_2:Int):=of_decide_eq_true za25
         have q3027:x11_2 < (t7.length:Int):=of_decide_eq_true za25
         obtain ⟨ad3027,e3027,hx3027_0,hx3027_1,hx3027_2⟩:=at_T32 (Kd.R_reads' HO_5.out).2.2 x11_2 p3027 q3027
         obtain rfl:ad3025=ad3027:=(by injection e3027)
         replace p3027:=eq_true p3027
         replace q3027:=eq_true q3027
         have p3029:0≤(x11_2:Int):=of_decide_eq_true za25
         have q3029:x11_2 < (t7.length:Int):=of_decide_eq_true za25
         obtain ⟨ad3029,e3029,hx3029_0,hx3029_1,hx3029_2⟩:=at_T32 (Kd.R_reads' HO_5.out).2.2 x11_2 p3029 q3029
         obtain rfl:ad3025=ad3029:=(by injection e3029)
         replace p3029:=eq_true p3029
         replace q3029:=eq_true q3029
         refine start_ (n:=28) (S:=fun w'=>w'.cell? ⟨gb6,0,none⟩=some (.slice Ao12 t2.length co12)∧w'.cell? ⟨gb17,0,none⟩=some (.string t13)∧w'.cell? ⟨gb17,1,none⟩=some (.string t14)∧w'.cell? ⟨gb17,2,none⟩=some (.string t15)∧w'.cell? (ad3025.add ((x11_2).toNat * 3))=some (.string ((rd_T32 t7 x11_2).f0))∧w'.cell? ⟨(ad3025.add ((x11_2).toNat * 3)).block,(ad3025.add ((x11_2).toNat * 3)).off+1,none⟩=some (.string ((rd_T32 t7 x11_2).f1))∧w'.cell? ⟨(ad3025.add ((x11_2).toNat * 3)).block,(ad3025.add ((x11_2).toNat * 3)).off+2,none⟩=some (.string ((rd_T32 t7 x11_2).f2))∧w'.cell? (ad3026.add ((x11_2).toNat * 3))=some (.string ((rd_T32 t10 x11_2).f0))∧w'.cell? ⟨(ad3026.add ((x11_2).toNat * 3)).block,(ad3026.add ((x11_2).toNat * 3)).off+1,none⟩=some (.string ((rd_T32 t10 x11_2).f1))∧w'.cell? ⟨(ad3026.add ((x11_2).toNat * 3)).block,(ad3026.add ((x11_2).toNat * 3)).off+2,none⟩=some (.string ((rd_T32 t10 x11_2).f2))∧w'.cell? (ad3025.add ((x11_2).toNat * 3))=some (.string ((rd_T32 t7 x11_2).f0))∧w'.cell? ⟨(ad3025.add ((x11_2).toNat * 3)).block,(ad3025.add ((x11_2).toNat * 3)).off+1,none⟩=some (.string ((rd_T32 t7 x11_2).f1))∧w'.cell? ⟨(ad3025.add ((x11_2).toNat * 3)).block,(ad3025.add ((x11_2).toNat * 3)).off+2,none⟩=some (.string ((rd_T32 t7 x11_2).f2))∧w'.cell? (ad3025.add ((x11_2).toNat * 3))=some (.string ((rd_T32 t7 x11_2).f0))∧w'.cell? ⟨(ad3025.add ((x11_2).toNat * 3)).block,(ad3025.add ((x11_2).toNat * 3)).off+1,none⟩=some (.string ((rd_T32 t7 x11_2).f1))∧w'.cell? ⟨(ad3025.add ((x11_2).toNat * 3)).block,(ad3025.add ((x11_2).toNat * 3)).off+2,none⟩=some (.string ((rd_T32 t7 x11_2).f2))) (ds:=[]) #[false,false,false,false,false,false,false,false,false,false,false,false,false,false,false,false,false,false,false,false,false,false,false,false,false,false,false,false] (by kernel_rfl) rfl rfl ⟨(blk_cell BK6.out 0).trans rfl,(blk_cell BK17.out 0).trans rfl,(blk_cell BK17.out 1).trans rfl,(blk_cell BK17.out 2).trans rfl,hx3025_0,hx3025_1,hx3025_2,hx3026_0,hx3026_1,hx3026_2,hx3027_0,hx3027_1,hx3027_2,hx3029_0,hx3029_1,hx3029_2⟩ (fun hHeld=>?_);refine with_tabW laws_FnModels.tab13 laws_FnModels.bits13 (fun HT_ HW_=>?_)
         generalize wr.drew=w71 at HO_5 HO_6 HO_3007000 BK6 BK17 BK22 HB hx3025_0 hx3025_1 hx3025_2 hx3026_0 hx3026_1 hx3026_2 hx3027_0 hx3027_1 hx3027_2 hx3029_0 hx3029_1 hx3029_2 hHeld ⊢
         refine zy 0 (some 69) HT_.out ?_
         refine zy 1 (some 70) HT_.out ?_
         refine zy 2 (some 71) HT_.out ?_
         refine zy 4 (some 73) HT_.out ?_
         refine zy 5 (some 74) HT_.out ?_
         refine zy 6 (some 75) HT_.out ?_
         refine ztk 3 (some 72) HT_.out HW_.out hHeld ?_
         refine ztk 7 (some 76) HT_.out HW_.out hHeld ?_
         refine zy 8 (some 77) HT_.out ?_
         refine zy 9 (some 78) HT_.out ?_
         refine zy 11 (some 80) HT_.out ?_
         refine zy 12 (some 81) HT_.out ?_
         refine zy 13 (some 82) HT_.out ?_
         refine ztk 10 (some 79) HT_.out HW_.out hHeld ?_
         refine ztk 14 (some 83) HT_.out HW_.out hHeld ?_
         refine zon 15 (some 84) HT_.out (fun K hK=>?_)
         refine goes_ Tryz.func12 (by kernel_rfl) rfl #[.agg #[.slice Ao12 t2.length co12],.agg #[.string ((rd_T32 t7 x11_2).f0),.string ((rd_T32 t7 x11_2).f1),.string ((rd_T32 t7 x11_2).f2)]] (by rfl) rfl rfl za11 ?_
         with_reducible refine (impl_IsModel.calls k2 _ _ t2 ((rd_T32 t7 x11_2).f0) ((rd_T32 t7 x11_2).f1) ((rd_T32 t7 x11_2).f2) _ _ ?side1 ?side2 A59.out).mono ?_
         (case side1=>repeat ((exact (Kd.N_reads' HO_3007000.out).2.2)))
         (case side2=>exact (Kd.N_reads' HO_3007000.out).2.1)
         rintro e w73 ⟨rfl,hb⟩
         have HS4_:=(hb.cell (World.block_lt_of_cell? _ _ (hHeld.2.2.2.2.1))).trans (hHeld.2.2.2.2.1)
         have HS5_:=(hb.cell (World.block_lt_of_cell? _ _ (hHeld.2.2.2.2.2.1))).trans (hHeld.2.2.2.2.2.1)
         have HS6_:=(hb.cell (World.block_lt_of_cell? _ _ (hHeld.2.2.2.2.2.2.1))).trans (hHeld.2.2.2.2.2.2.1)
         have HS7_:=(hb.cell (World.block_lt_of_cell? _ _ (hHeld.2.2.2.2.2.2.2.1))).trans (hHeld.2.2.2.2.2.2.2.1)
         have HS8_:=(hb.cell (World.block_lt_of_cell? _ _ (hHeld.2.2.2.2.2.2.2.2.1))).trans (hHeld.2.2.2.2.2.2.2.2.1)
         have HS9_:=(hb.cell (World.block_lt_of_cell? _ _ (hHeld.2.2.2.2.2.2.2.2.2.1))).trans (hHeld.2.2.2.2.2.2.2.2.2.1)
         have HS10_:=(hb.cell (World.block_lt_of_cell? _ _ (hHeld.2.2.2.2.2.2.2.2.2.2.1))).trans (hHeld.2.2.2.2.2.2.2.2.2.2.1)
         have HS11_:=(hb.cell (World.block_lt_of_cell? _ _ (hHeld.2.2.2.2.2.2.2.2.2.2.2.1))).trans (hHeld.2.2.2.2.2.2.2.2.2.2.2.1)
         have HS12_:=(hb.cell (World.block_lt_of_cell? _ _ (hHeld.2.2.2.2.2.2.2.2.2.2.2.2.1))).trans (hHeld.2.2.2.2.2.2.2.2.2.2.2.2.1)
         have HS13_:=(hb.cell (World.block_lt_of_cell? _ _ (hHeld.2.2.2.2.2.2.2.2.2.2.2.2.2.1))).trans (hHeld.2.2.2.2.2.2.2.2.2.2.2.2.2.1)
         have HS14_:=(hb.cell (World.block_lt_of_cell? _ _ (hHeld.2.2.2.2.2.2.2.2.2.2.2.2.2.2.1))).trans (hHeld.2.2.2.2.2.2.2.2.2.2.2.2.2.2.1)
         have HS15_:=(hb.cell (World.block_lt_of_cell? _ _ (hHeld.2.2.2.2.2.2.2.2.2.2.2.2.2.2.2))).trans (hHeld.2.2.2.2.2.2.2.2.2.2.2.2.2.2.2)
         refine ⟨_,rfl,?_⟩
         replace HO_5:=zk (Kd.R_below (za1 HO_5.out) hb)
         replace HO_6:=zk (Kd.R_below (za1 HO_6.out) hb)
         replace HO_3007000:=zk (Kd.N_below (za4 HO_3007000.out) hb)
         replace BK6:=yb BK6 hb
         replace BK17:=yb BK17 hb
         replace BK22:=yb BK22 hb
         replace HB:=yB HB hb
         (try clear hb)
         (try clear hb2)
         (try clear hk)
         (try clear hi)
         refine hK.out _ _ ⟨(blk_cell BK6.out 0).trans rfl,(blk_cell BK17.out 0).trans rfl,(blk_cell BK17.out 1).trans rfl,(blk_cell BK17.out 2).trans rfl,HS4_,HS5_,HS6_,HS7_,HS8_,HS9_,HS10_,HS11_,HS12_,HS13_,HS14_,HS15_⟩ (fun hHeld=>?_)
         clear hK K
         refine zno (some 84) ?_
         refine zy 16 (some 85) HT_.out ?_
         refine zy 17 (some 86) HT_.out ?_
         refine zy 18 (some 87) HT_.out ?_
         refine zy 19 (some 88) HT_.out ?_
         refine zy 20 (some 89) HT_.out ?_
         refine zy 21 (some 90) HT_.out ?_
         refine ztk 22 (some 91) HT_.out HW_.out hHeld ?_
         refine ztk 24 (some 93) HT_.out HW_.out hHeld ?_
         refine zon 23 (some 92) HT_.out (fun K hK=>?_)
         refine goes_ Tryz.func13 (by kernel_rfl) rfl #[.agg #[.string ((rd_T32 t7 x11_2).f0),.string ((rd_T32 t7 x11_2).f1),.string ((rd_T32 t7 x11_2).f2)]] (by rfl) rfl rfl za11 ?_
         with_reducible refine (impl_TotalLength.calls ((rd_T32 t7 x11_2).f0) ((rd_T32 t7 x11_2).f1) ((rd_T32 t7 x11_2).f2) t30 _ A61.out).mono ?_
         rintro e w74 ⟨rfl,hb⟩
         have HS4_:=(hb.cell (World.block_lt_of_cell? _ _ (hHeld.2.2.2.2.1))).trans (hHeld.2.2.2.2.1)
         have HS5_:=(hb.cell (World.block_lt_of_cell? _ _ (hHeld.2.2.2.2.2.1))).trans (hHeld.2.2.2.2.2.1)
         have HS6_:=(hb.cell (World.block_lt_of_cell? _ _ (hHeld.2.2.2.2.2.2.1))).trans (hHeld.2.2.2.2.2.2.1)
         have HS7_:=(hb.cell (World.block_lt_of_cell? _ _ (hHeld.2.2.2.2.2.2.2.1))).trans (hHeld.2.2.2.2.2.2.2.1)
         have HS8_:=(hb.cell (World.block_lt_of_cell? _ _ (hHeld.2.2.2.2.2.2.2.2.1))).trans (hHeld.2.2.2.2.2.2.2.2.1)
         have HS9_:=(hb.cell (World.block_lt_of_cell? _ _ (hHeld.2.2.2.2.2.2.2.2.2.1))).trans (hHeld.2.2.2.2.2.2.2.2.2.1)
         have HS10_:=(hb.cell (World.block_lt_of_cell? _ _ (hHeld.2.2.2.2.2.2.2.2.2.2.1))).trans (hHeld.2.2.2.2.2.2.2.2.2.2.1)
         have HS11_:=(hb.cell (World.block_lt_of_cell? _ _ (hHeld.2.2.2.2.2.2.2.2.2.2.2.1))).trans (hHeld.2.2.2.2.2.2.2.2.2.2.2.1)
         have HS12_:=(hb.cell (World.block_lt_of_cell? _ _ (hHeld.2.2.2.2.2.2.2.2.2.2.2.2.1))).trans (hHeld.2.2.2.2.2.2.2.2.2.2.2.2.1)
         have HS13_:=(hb.cell (World.block_lt_of_cell? _ _ (hHeld.2.2.2.2.2.2.2.2.2.2.2.2.2.1))).trans (hHeld.2.2.2.2.2.2.2.2.2.2.2.2.2.1)
         have HS14_:=(hb.cell (World.block_lt_of_cell? _ _ (hHeld.2.2.2.2.2.2.2.2.2.2.2.2.2.2.1))).trans (hHeld.2.2.2.2.2.2.2.2.2.2.2.2.2.2.1)
         have HS15_:=(hb.cell (World.block_lt_of_cell? _ _ (hHeld.2.2.2.2.2.2.2.2.2.2.2.2.2.2.2))).trans (hHeld.2.2.2.2.2.2.2.2.2.2.2.2.2.2.2)
         refine ⟨_,rfl,?_⟩
         replace HO_5:=zk (Kd.R_below (za1 HO_5.out) hb)
         replace HO_6:=zk (Kd.R_below (za1 HO_6.out) hb)
         replace HO_3007000:=zk (Kd.N_below (za4 HO_3007000.out) hb)
         replace BK6:=yb BK6 hb
         replace BK17:=yb BK17 hb
         replace BK22:=yb BK22 hb
         replace HB:=yB HB hb
         (try clear hb)
         (try clear hb2)
         (try clear hk)
         (try clear hi)
         refine hK.out _ _ ⟨(blk_cell BK6.out 0).trans rfl,(blk_cell BK17.out 0).trans rfl,(blk_cell BK17.out 1).trans rfl,(blk_cell BK17.out 2).trans rfl,HS4_,HS5_,HS6_,HS7_,HS8_,HS9_,HS10_,HS11_,HS12_,HS13_,HS14_,HS15_⟩ (fun hHeld=>?_)
         clear hK K
         refine zno (some 92) ?_
         refine zon 25 (some 94) HT_.out (fun K hK=>?_)
         refine goes_ Tryz.func13 (by kernel_rfl) rfl #[.agg #[.string t13,.string t14,.string t15]] (by rfl) rfl rfl za11 ?_
         with_reducible refine (impl_TotalLength.calls t13 t14 t15 t31 _ A62.out).mono ?_
         rintro e w75 ⟨rfl,hb⟩
         have HS4_:=(hb.cell (World.block_lt_of_cell? _ _ (hHeld.2.2.2.2.1))).trans (hHeld.2.2.2.2.1)
         have HS5_:=(hb.cell (World.block_lt_of_cell? _ _ (hHeld.2.2.2.2.2.1))).trans (hHeld.2.2.2.2.2.1)
         have HS6_:=(hb.cell (World.block_lt_of_cell? _ _ (hHeld.2.2.2.2.2.2.1))).trans (hHeld.2.2.2.2.2.2.1)
         have HS7_:=(hb.cell (World.block_lt_of_cell? _ _ (hHeld.2.2.2.2.2.2.2.1))).trans (hHeld.2.2.2.2.2.2.2.1)
         have HS8_:=(hb.cell (World.block_lt_of_cell? _ _ (hHeld.2.2.2.2.2.2.2.2.1))).trans (hHeld.2.2.2.2.2.2.2.2.1)
         have HS9_:=(hb.cell (World.block_lt_of_cell? _ _ (hHeld.2.2.2.2.2.2.2.2.2.1))).trans (hHeld.2.2.2.2.2.2.2.2.2.1)
         have HS10_:=(hb.cell (World.block_lt_of_cell? _ _ (hHeld.2.2.2.2.2.2.2.2.2.2.1))).trans (hHeld.2.2.2.2.2.2.2.2.2.2.1)
         have HS11_:=(hb.cell (World.block_lt_of_cell? _ _ (hHeld.2.2.2.2.2.2.2.2.2.2.2.1))).trans (hHeld.2.2.2.2.2.2.2.2.2.2.2.1)
         have HS12_:=(hb.cell (World.block_lt_of_cell? _ _ (hHeld.2.2.2.2.2.2.2.2.2.2.2.2.1))).trans (hHeld.2.2.2.2.2.2.2.2.2.2.2.2.1)
         have HS13_:=(hb.cell (World.block_lt_of_cell? _ _ (hHeld.2.2.2.2.2.2.2.2.2.2.2.2.2.1))).trans (hHeld.2.2.2.2.2.2.2.2.2.2.2.2.2.1)
         have HS14_:=(hb.cell (World.block_lt_of_cell? _ _ (hHeld.2.2.2.2.2.2.2.2.2.2.2.2.2.2.1))).trans (hHeld.2.2.2.2.2.2.2.2.2.2.2.2.2.2.1)
         have HS15_:=(hb.cell (World.block_lt_of_cell? _ _ (hHeld.2.2.2.2.2.2.2.2.2.2.2.2.2.2.2))).trans (hHeld.2.2.2.2.2.2.2.2.2.2.2.2.2.2.2)
         refine ⟨_,rfl,?_⟩
         replace HO_5:=zk (Kd.R_below (za1 HO_5.out) hb)
         replace HO_6:=zk (Kd.R_below (za1 HO_6.out) hb)
         replace HO_3007000:=zk (Kd.N_below (za4 HO_3007000.out) hb)
         replace BK6:=yb BK6 hb
         replace BK17:=yb BK17 hb
         replace BK22:=yb BK22 hb
         replace HB:=yB HB hb
         (try clear hb)
         (try clear hb2)
         (try clear hk)
         (try clear hi)
         refine hK.out _ _ ⟨(blk_cell BK6.out 0).trans rfl,(blk_cell BK17.out 0).trans rfl,(blk_cell BK17.out 1).trans rfl,(blk_cell BK17.out 2).trans rfl,HS4_,HS5_,HS6_,HS7_,HS8_,HS9_,HS10_,HS11_,HS12_,HS13_,HS14_,HS15_⟩ (fun hHeld=>?_)
         clear hK K
         refine zno (some 94) ?_
         refine zy 26 (some 95) HT_.out ?_
         refine zy 27 (some 96) HT_.out ?_
         refine done_ (done_of HT_.out (by kernel_rfl)) ?_
         try go_wp2
         go_roundg k2
         case measure=>have:=HJ8.out;have:=HK2.out;omega
         case rel=>exact ⟨(wrap64 (x11_2+1)),(by (rfl)),H',⟨by have:=HJ8.out;have:=HK2.out;omega⟩,⟨za1 HO_5.out⟩,⟨za1 HO_6.out⟩,⟨za4 HO_3007000.out⟩,⟨za3 BK6.out⟩,⟨za3 BK17.out⟩,⟨za3 BK22.out⟩,⟨za10⟩⟩
        ·replace c60:=Bool.eq_false_iff.mpr c60
         subst c60
         have H1:(some false)=some r:=by rw [if_neg zff] at H;exact H
         exact absurd ((zi H1).trans HRT_.out) (by decide)
        ·rw [if_neg c54] at H
         exact absurd H (by simp)
        ·rw [if_neg c53] at H
         exact absurd H (by simp)
        rw [if_neg c52] at H
        have c52b0:=zdnl c52
        clear c52
        obtain ⟨⟨t32,t35,t36,t37⟩,A80,H⟩:=zO H
        try dsimp only at H
        by_cases c81:t16=true
        subst c81
        rw [if_pos rfl] at H
        try dsimp only at H
        by_cases c82:0 < (t7.length:Int)
        rw [if_pos c82] at H
        have c82b0:=zdl c82
        have c82b1:decide (0 < t7.length)=true:=decide_eq_true (by omega)
        clear c82
        by_cases c83:(t18.toList == (((rd_T32 t7 0).f0).toList) && (t19.toList == (((rd_T32 t7 0).f1).toList) && (t20.toList == (((rd_T32 t7 0).f2).toList))))=true
        rw [if_pos c83] at H
        have c83b0:(t18.toList == (((rd_T32 t7 0).f0).toList) && (t19.toList == (((rd_T32 t7 0).f1).toList) && (t20.toList == (((rd_T32 t7 0).f2).toList))))=true:=c83
        (try (have c83b1:decide (t18.toList=(((rd_T32 t7 0).f0).toList) && (t19.toList == (((rd_T32 t7 0).f1).toList) && (t20.toList == (((rd_T32 t7 0).f2).toList))))=true:=by simpa using c83))
        (try (have c83b2:(t18.toList == (((rd_T32 t7 0).f0).toList) && (t19.toList == (((rd_T32 t7 0).f1).toList) && (t20.toList == (((rd_T32 t7 0).f2).toList))))=true:=by simpa using c83))
        clear c83
        obtain ⟨t41,A84,H⟩:=zO H
        try dsimp only at H
        by_cases c85:t41=true
        ·subst c85
         rw [if_pos rfl] at H
         try dsimp only at H
         obtain ⟨t42,A86,H⟩:=zO H
         try dsimp only at H
         obtain ⟨t43,A87,H⟩:=zO H
         try dsimp only at H
         obtain rfl:=zi H
         obtain ⟨Ao88,co88,eo88⟩:=Kd.R_slice HO_5.out
         subst eo88
         try go_wp2_with (first|((with_reducible refine gate_callee (f:=14) rfl ?_);refine zg (some 99) Tryz.func14 #[.slice A0 l0.length c0] rfl za11 ?_;(with_reducible refine (spec_DrawIsModel.calls k2 _ _ l0 t32 t35 t36 t37 _ ?side1 ?side2 A80.out).mono ?_);(case side1=>repeat ((exact (Kd.C_below HR0.out HB.out))));(case side2=>exact HC0.out);rintro e w89 ⟨v33,rfl,ho0,hb⟩;refine ⟨_,rfl,?_⟩;have HO34:=zk (Kd.N_lower (Kd.N_mono (ok':=fun k_=>some k_ ≠ (.slice Ao88 t7.length co88:Value).ownBlock∧some k_ ≠ (v3011:Value).ownBlock∧some k_ ≠ (.slice Ao12 t2.length co12:Value).ownBlock∧k_ ≠ gb6∧k_ ≠ gb17∧k_ ≠ gb22) ho0 (fun k_ hk_=>⟨(Kd.fresh' (Kd.R_lt (za1 HO_5.out)) k_ hk_),(Kd.fresh' (Kd.R_lt (za1 HO_6.out)) k_ hk_),(Kd.fresh' (Kd.N_lt (za4 HO_3007000.out)) k_ hk_),(zF BK6.out k_ hk_),(zF BK17.out k_ hk_),(zF BK22.out k_ hk_)⟩)) (below_size za10));replace HO_5:=zk (Kd.R_below (za1 HO_5.out) hb);replace HO_6:=zk (Kd.R_below (za1 HO_6.out) hb);replace HO_3007000:=zk (Kd.N_elder' (za4 HO_3007000.out) (Kd.N_base ho0) hb);replace BK6:=yb BK6 hb;replace BK17:=yb BK17 hb;replace BK22:=yb BK22 hb;replace HB:=yB HB hb;(try clear hb ho0))|((with_reducible refine gate_dst (N:=12) rfl ?_);(try (refine gate_guard (by rfl) ?_;dsimp only));refine zE (cs:=#[.slice none 0 0]) (t:=26) ?_;intro gb38 hg w90 hbox hb;replace HO_5:=zk (Kd.R_below (za1 HO_5.out) hb);replace HO_6:=zk (Kd.R_below (za1 HO_6.out) hb);replace HO_3007000:=zk (Kd.N_below (Kd.N_elderB (za4 HO_3007000.out) gb38 (Nat.le_of_eq hg.symm)) hb);replace HO34:=zk (Kd.N_below (Kd.N_elderB (za4 HO34.out) gb38 (Nat.le_of_eq hg.symm)) hb);have BK38:=zk hbox;have GW38:=zk (zs (w:=w) hg za10);have GE38:=GW38;have NB6_38:=yn hg BK6;have NB38_6:=yp hg BK6;have NB17_38:=yn hg BK17;have NB38_17:=yp hg BK17;have NB22_38:=yn hg BK22;have NB38_22:=yp hg BK22;replace BK6:=yb BK6 hb;replace BK17:=yb BK17 hb;replace BK22:=yb BK22 hb;replace HB:=yB HB hb;clear hb hbox hg)|((with_reducible refine gate_dst (N:=13) rfl ?_);(try (refine gate_guard (by rfl) ?_;dsimp only));refine zE (cs:=#[.string ⟨#[]⟩,.string ⟨#[]⟩,.string ⟨#[]⟩]) (t:=32) ?_;intro gb39 hg w91 hbox hb;replace HO_5:=zk (Kd.R_below (Kd.R_elderB (za1 HO_5.out) gb39 (Nat.le_of_eq hg.symm)) hb);replace HO_6:=zk (Kd.R_below (Kd.R_elderB (za1 HO_6.out) gb39 (Nat.le_of_eq hg.symm)) hb);replace HO_3007000:=zk (Kd.N_below (Kd.N_elderB (za4 HO_3007000.out) gb39 (Nat.le_of_eq hg.symm)) hb);replace HO34:=zk (Kd.N_below (Kd.N_elderB (za4 HO34.out) gb39 (Nat.le_of_eq hg.symm)) hb);have BK39:=zk hbox;have GW39:=zk (zs (w:=w) hg za10);have GE39:=GW39;have NB6_39:=yn hg BK6;have NB39_6:=yp hg BK6;have NB17_39:=yn hg BK17;have NB39_17:=yp hg BK17;have NB22_39:=yn hg BK22;have NB39_22:=yp hg BK22;have NB38_39:=yn hg BK38;have NB39_38:=yp hg BK38;replace BK6:=yb BK6 hb;replace BK17:=yb BK17 hb;replace BK22:=yb BK22 hb;replace BK38:=yb BK38 hb;replace HB:=yB HB hb;clear hb hbox hg;obtain ⟨Ao92,co92,eo92⟩:=Kd.N_slice HO34.out;subst eo92;have hnb93:=NB38_6.out;have hnc93:=NB6_38.out;have hnb94:=NB38_17.out;have hnc94:=NB17_38.out;have hnb95:=NB38_22.out;have hnc95:=NB22_38.out;have hnb96:=NB38_39.out;have hnc96:=NB39_38.out;obtain ⟨hcz97_0,hfz97_0⟩:=blk1 BK38.out;have hnb98:=NB39_6.out;have hnc98:=NB6_39.out;have hnb99:=NB39_17.out;have hnc99:=NB17_39.out;have hnb100:=NB39_22.out;have hnc100:=NB22_39.out;obtain ⟨hcz101_0,hcz101_1,hcz101_2,hfz101_0,hfz101_1,hfz101_2⟩:=blk3 BK39.out))
         have n0_:Aside0 (Kd.R k32 32 ((((w91.setCell ⟨gb38,0,none⟩ (.slice Ao92 t32.length co92)).setCell ⟨gb39,0,none⟩ (.string t35)).setCell ⟨gb39,1,none⟩ (.string t36)).setCell ⟨gb39,2,none⟩ (.string t37)) w.heap.size (fun k_=>some k_ ≠ (v3011:Value).ownBlock∧k_ ≠ gb17∧k_ ≠ gb22∧k_ ≠ gb39) (.slice Ao88 t7.length co88) t7):=⟨by (with_reducible repeat ((apply Kd.R_alloc)));exact Kd.R_mono (zfR (zfR (zfR (Kd.R_far (p:=⟨gb38,0,none⟩) (Kd.R_mono (Kd.R_types HO_5.out BK38.out (by decide)) (fun k_ hk=>(⟨hk,hk.1.2⟩:_∧k_ ≠ gb39))) (fun _ hk=>hk.1.2) (.slice Ao92 t32.length co92))))) (fun _ hk=>⟨hk.1.1.1.1,⟨hk.1.1.1.2.1,⟨hk.1.1.1.2.2,hk.1.1.2⟩⟩⟩)⟩
         have n1_:Aside0 (Kd.R k32 32 ((((w91.setCell ⟨gb38,0,none⟩ (.slice Ao92 t32.length co92)).setCell ⟨gb39,0,none⟩ (.string t35)).setCell ⟨gb39,1,none⟩ (.string t36)).setCell ⟨gb39,2,none⟩ (.string t37)) w.heap.size (fun k_=>some k_ ≠ (.slice Ao88 t7.length co88:Value).ownBlock∧k_ ≠ gb17∧k_ ≠ gb22∧k_ ≠ gb39) v3011 t10):=⟨by (with_reducible repeat ((apply Kd.R_alloc)));exact Kd.R_mono (zfR (zfR (zfR (Kd.R_far (p:=⟨gb38,0,none⟩) (Kd.R_mono (Kd.R_types HO_6.out BK38.out (by decide)) (fun k_ hk=>(⟨hk,hk.1.2⟩:_∧k_ ≠ gb39))) (fun _ hk=>hk.1.2) (.slice Ao92 t32.length co92))))) (fun _ hk=>⟨hk.1.1.1.1,⟨hk.1.1.1.2.1,⟨hk.1.1.1.2.2,hk.1.1.2⟩⟩⟩)⟩
         have n2_:Aside0 (Kd.N k56 56 ((((w91.setCell ⟨gb38,0,none⟩ (.slice Ao92 t32.length co92)).setCell ⟨gb39,0,none⟩ (.string t35)).setCell ⟨gb39,1,none⟩ (.string t36)).setCell ⟨gb39,2,none⟩ (.string t37)) w.heap.size (fun k_=>some k_ ≠ (.slice Ao88 t7.length co88:Value).ownBlock∧some k_ ≠ (v3011:Value).ownBlock∧some k_ ≠ (.slice Ao92 t32.length co92:Value).ownBlock∧k_ ≠ gb6∧k_ ≠ gb17∧k_ ≠ gb22∧k_ ≠ gb38∧k_ ≠ gb39) (.slice Ao12 t2.length co12) t2):=⟨by (with_reducible repeat ((apply Kd.N_alloc)));exact Kd.N_mono (zfN (zfN (zfN (Kd.N_far (p:=⟨gb38,0,none⟩) (Kd.N_mono (Kd.N_mono HO_3007000.out (fun k_ hk=>(⟨hk,hk.1.2⟩:_∧k_ ≠ gb38))) (fun k_ hk=>(⟨hk,hk.1.2⟩:_∧k_ ≠ gb39))) (fun _ hk=>hk.1.2) (.slice Ao92 t32.length co92))))) (fun _ hk=>⟨hk.1.1.1.1.1.1,⟨hk.1.1.1.1.1.2.1,⟨hk.1.1.1.1.2,⟨hk.1.1.1.1.1.2.2.1,⟨hk.1.1.1.1.1.2.2.2.1,⟨hk.1.1.1.1.1.2.2.2.2,⟨hk.1.1.1.2,hk.1.1.2⟩⟩⟩⟩⟩⟩⟩)⟩
         have n3_:Aside0 (Kd.N k56 56 ((((w91.setCell ⟨gb38,0,none⟩ (.slice Ao92 t32.length co92)).setCell ⟨gb39,0,none⟩ (.string t35)).setCell ⟨gb39,1,none⟩ (.string t36)).setCell ⟨gb39,2,none⟩ (.string t37)) w.heap.size (fun k_=>some k_ ≠ (.slice Ao88 t7.length co88:Value).ownBlock∧some k_ ≠ (v3011:Value).ownBlock∧some k_ ≠ (.slice Ao12 t2.length co12:Value).ownBlock∧k_ ≠ gb6∧k_ ≠ gb17∧k_ ≠ gb22∧k_ ≠ gb38∧k_ ≠ gb39) (.slice Ao92 t32.length co92) t32):=⟨by (with_reducible repeat ((apply Kd.N_alloc)));exact Kd.N_mono (zfN (zfN (zfN (Kd.N_far (p:=⟨gb38,0,none⟩) (Kd.N_mono (Kd.N_mono HO34.out (fun k_ hk=>(⟨hk,hk.1.2⟩:_∧k_ ≠ gb38))) (fun k_ hk=>(⟨hk,hk.1.2⟩:_∧k_ ≠ gb39))) (fun _ hk=>hk.1.2) (.slice Ao92 t32.length co92))))) (fun _ hk=>⟨hk.1.1.1.1.1,⟨hk.1.1.1.1.2.1,⟨hk.1.1.1.1.2.2.1,⟨hk.1.1.1.1.2.2.2.1,⟨hk.1.1.1.1.2.2.2.2.1,⟨hk.1.1.1.1.2.2.2.2.2,⟨hk.1.1.1.2,hk.1.1.2⟩⟩⟩⟩⟩⟩⟩)⟩
         have n4_:Aside0 (((((w91.setCell ⟨gb38,0,none⟩ (.slice Ao92 t32.length co92)).setCell ⟨gb39,0,none⟩ (.string t35)).setCell ⟨gb39,1,none⟩ (.string t36)).setCell ⟨gb39,2,none⟩ (.string t37)).heap[gb6]? = some (.cells #[.slice Ao12 t2.length co12] 26 (0,0))):=⟨zpw BK6.out⟩
         have n5_:Aside0 (((((w91.setCell ⟨gb38,0,none⟩ (.slice Ao92 t32.length co92)).setCell ⟨gb39,0,none⟩ (.string t35)).setCell ⟨gb39,1,none⟩ (.string t36)).setCell ⟨gb39,2,none⟩ (.string t37)).heap[gb17]? = some (.cells #[.string t13,.string t14,.string t15] 32 (0,0))):=⟨zpw BK17.out⟩
         have n6_:Aside0 (((((w91.setCell ⟨gb38,0,none⟩ (.slice Ao92 t32.length co92)).setCell ⟨gb39,0,none⟩ (.string t35)).setCell ⟨gb39,1,none⟩ (.string t36)).setCell ⟨gb39,2,none⟩ (.string t37)).heap[gb22]? = some (.cells #[.string t18,.string t19,.string t20] 32 (0,0))):=⟨zpw BK22.out⟩
         have n7_:Aside0 (((((w91.setCell ⟨gb38,0,none⟩ (.slice Ao92 t32.length co92)).setCell ⟨gb39,0,none⟩ (.string t35)).setCell ⟨gb39,1,none⟩ (.string t36)).setCell ⟨gb39,2,none⟩ (.string t37)).heap[gb38]? = some (.cells #[.slice Ao92 t32.length co92] 26 (0,0))):=⟨zpw BK38.out⟩
         have n8_:Aside0 (((((w91.setCell ⟨gb38,0,none⟩ (.slice Ao92 t32.length co92)).setCell ⟨gb39,0,none⟩ (.string t35)).setCell ⟨gb39,1,none⟩ (.string t36)).setCell ⟨gb39,2,none⟩ (.string t37)).heap[gb39]? = some (.cells #[.string t35,.string t36,.string t37] 32 (0,0))):=⟨zpw BK39.out⟩
         have n9_:Aside0 (Below w.heap.size w ((((w91.setCell ⟨gb38,0,none⟩ (.slice Ao92 t32.length co92)).setCell ⟨gb39,0,none⟩ (.string t35)).setCell ⟨gb39,1,none⟩ (.string t36)).setCell ⟨gb39,2,none⟩ (.string t37))):=⟨za10⟩
         (try clear HO_5)
         (try clear HO_6)
         (try clear HO_3007000)
         (try clear HO34)
         (try clear BK6)
         (try clear BK17)
         (try clear BK22)
         (try clear BK38)
         (try clear BK39)
         (try clear HB)
         generalize ((((w91.setCell ⟨gb38,0,none⟩ (.slice Ao92 t32.length co92)).setCell ⟨gb39,0,none⟩ (.string t35)).setCell ⟨gb39,1,none⟩ (.string t36)).setCell ⟨gb39,2,none⟩ (.string t37))=w102 at n0_ n1_ n2_ n3_ n4_ n5_ n6_ n7_ n8_ n9_ ⊢
         have HO_5:=n0_
         have HO_6:=n1_
         have HO_3007000:=n2_
         have HO34:=n3_
         have BK6:=n4_
         have BK17:=n5_
         have BK22:=n6_
         have BK38:=n7_
         have BK39:=n8_
         have HB:=n9_
         clear n0_ n1_ n2_ n3_ n4_ n5_ n6_ n7_ n8_ n9_
         replace HO_5:=zk (Kd.R_drew HO_5.out)
         replace HO_6:=zk (Kd.R_drew HO_6.out)
         replace HO_3007000:=zk (Kd.N_drew HO_3007000.out)
         replace HO34:=zk (Kd.N_drew HO34.out)
         replace BK6:=zk (blk_drew BK6.out)
         replace BK17:=zk (blk_drew BK17.out)
         replace BK22:=zk (blk_drew BK22.out)
         replace BK38:=zk (blk_drew BK38.out)
         replace BK39:=zk (blk_drew BK39.out)
         replace HB:=zk (below_drew1 HB.out)
         have p3040:0≤(0:Int):=(by omega)
         have q3040:0 < (t7.length:Int):=of_decide_eq_true za25
         obtain ⟨ad3040,e3040,hx3040_0,hx3040_1,hx3040_2⟩:=at_T32 (Kd.R_reads' HO_5.out).2.2 0 p3040 q3040
         cases e3040
         have qi3040:(0 < t7.length)=True:=eq_true (by omega)
         (try rw [show ((0:Int)).toNat=0 from rfl] at hx3040_0)
         (try rw [show 0 * 3=0 from rfl] at hx3040_0)
         (try rw [Addr.add_zero'] at hx3040_0)
         (try rw [show ((0:Int)).toNat=0 from rfl] at hx3040_1)
         (try rw [show 0 * 3=0 from rfl] at hx3040_1)
         (try rw [Addr.add_zero'] at hx3040_1)
         (try rw [show ((0:Int)).toNat=0 from rfl] at hx3040_2)
         (try rw [show 0 * 3=0 from rfl] at hx3040_2)
         (try rw [Addr.add_zero'] at hx3040_2)
         replace p3040:=eq_true p3040
         replace q3040:=eq_true q3040
         refine start_ (n:=24) (S:=fun w'=>w'.cell? ⟨gb22,0,none⟩=some (.string t18)∧w'.cell? ⟨gb22,1,none⟩=some (.string t19)∧w'.cell? ⟨gb22,2,none⟩=some (.string t20)∧w'.cell? ⟨gb6,0,none⟩=some (.slice Ao12 t2.length co12)∧w'.cell? ⟨gb17,0,none⟩=some (.string t13)∧w'.cell? ⟨gb17,1,none⟩=some (.string t14)∧w'.cell? ⟨gb17,2,none⟩=some (.string t15)∧w'.cell? ⟨gb38,0,none⟩=some (.slice Ao92 t32.length co92)∧w'.cell? ⟨gb39,0,none⟩=some (.string t35)∧w'.cell? ⟨gb39,1,none⟩=some (.string t36)∧w'.cell? ⟨gb39,2,none⟩=some (.string t37)∧w'.cell? ad3040=some (.string ((rd_T32 t7 0).f0))∧w'.cell? ⟨ad3040.block,ad3040.off+1,none⟩=some (.string ((rd_T32 t7 0).f1))∧w'.cell? ⟨ad3040.block,ad3040.off+2,none⟩=some (.string ((rd_T32 t7 0).f2))) (ds:=[]) #[false,false,false,false,false,false,false,false,false,false,false,false,false,false,false,false,false,false,false,false,false,false,false,false] (by kernel_rfl) rfl rfl ⟨(blk_cell BK22.out 0).trans rfl,(blk_cell BK22.out 1).trans rfl,(blk_cell BK22.out 2).trans rfl,(blk_cell BK6.out 0).trans rfl,(blk_cell BK17.out 0).trans rfl,(blk_cell BK17.out 1).trans rfl,(blk_cell BK17.out 2).trans rfl,(blk_cell BK38.out 0).trans rfl,(blk_cell BK39.out 0).trans rfl,(blk_cell BK39.out 1).trans rfl,(blk_cell BK39.out 2).trans rfl,hx3040_0,hx3040_1,hx3040_2⟩ (fun hHeld=>?_);refine with_tabW laws_FnModels.tab16 laws_FnModels.bits16 (fun HT_ HW_=>?_)
         generalize w102.drew=w103 at HO_5 HO_6 HO_3007000 HO34 BK6 BK17 BK22 BK38 BK39 HB hx3040_0 hx3040_1 hx3040_2 hHeld ⊢
         refine zy 0 (some 102) HT_.out ?_
         refine zy 1 (some 103) HT_.out ?_
         refine zy 2 (some 104) HT_.out ?_
         refine zy 4 (some 106) HT_.out ?_
         refine zy 5 (some 107) HT_.out ?_
         refine ztk 3 (some 105) HT_.out HW_.out hHeld ?_
         refine ztk 6 (some 108) HT_.out HW_.out hHeld ?_
         refine zy 7 (some 109) HT_.out ?_
         refine zy 8 (some 110) HT_.out ?_
         refine ztk 9 (some 111) HT_.out HW_.out hHeld ?_
         refine ztk 10 (some 112) HT_.out HW_.out hHeld ?_
         refine zon 11 (some 113) HT_.out (fun K hK=>?_)
         refine goes_ Tryz.func12 (by kernel_rfl) rfl #[.agg #[.slice Ao12 t2.length co12],.agg #[.string t13,.string t14,.string t15]] (by rfl) rfl rfl za11 ?_
         with_reducible refine (impl_IsModel.calls k2 _ _ t2 t13 t14 t15 _ _ ?side1 ?side2 A84.out).mono ?_
         (case side1=>repeat ((exact (Kd.N_reads' HO_3007000.out).2.2)))
         (case side2=>exact (Kd.N_reads' HO_3007000.out).2.1)
         rintro e w104 ⟨rfl,hb⟩
         have HS11_:=(hb.cell (World.block_lt_of_cell? _ _ (hHeld.2.2.2.2.2.2.2.2.2.2.2.1))).trans (hHeld.2.2.2.2.2.2.2.2.2.2.2.1)
         have HS12_:=(hb.cell (World.block_lt_of_cell? _ _ (hHeld.2.2.2.2.2.2.2.2.2.2.2.2.1))).trans (hHeld.2.2.2.2.2.2.2.2.2.2.2.2.1)
         have HS13_:=(hb.cell (World.block_lt_of_cell? _ _ (hHeld.2.2.2.2.2.2.2.2.2.2.2.2.2))).trans (hHeld.2.2.2.2.2.2.2.2.2.2.2.2.2)
         refine ⟨_,rfl,?_⟩
         replace HO_5:=zk (Kd.R_below (za1 HO_5.out) hb)
         replace HO_6:=zk (Kd.R_below (za1 HO_6.out) hb)
         replace HO_3007000:=zk (Kd.N_below (za4 HO_3007000.out) hb)
         replace HO34:=zk (Kd.N_below (za4 HO34.out) hb)
         replace BK6:=yb BK6 hb
         replace BK17:=yb BK17 hb
         replace BK22:=yb BK22 hb
         replace BK38:=yb BK38 hb
         replace BK39:=yb BK39 hb
         replace HB:=yB HB hb
         (try clear hb)
         (try clear hb2)
         (try clear hk)
         (try clear hi)
         refine hK.out _ _ ⟨(blk_cell BK22.out 0).trans rfl,(blk_cell BK22.out 1).trans rfl,(blk_cell BK22.out 2).trans rfl,(blk_cell BK6.out 0).trans rfl,(blk_cell BK17.out 0).trans rfl,(blk_cell BK17.out 1).trans rfl,(blk_cell BK17.out 2).trans rfl,(blk_cell BK38.out 0).trans rfl,(blk_cell BK39.out 0).trans rfl,(blk_cell BK39.out 1).trans rfl,(blk_cell BK39.out 2).trans rfl,HS11_,HS12_,HS13_⟩ (fun hHeld=>?_)
         clear hK K
         refine zno (some 113) ?_
         refine zy 12 (some 114) HT_.out ?_
         refine zy 13 (some 115) HT_.out ?_
         refine zy 14 (some 116) HT_.out ?_
         refine ztk 15 (some 117) HT_.out HW_.out hHeld ?_
         refine ztk 16 (some 118) HT_.out HW_.out hHeld ?_
         refine ztk 18 (some 120) HT_.out HW_.out hHeld ?_
         refine ztk 19 (some 121) HT_.out HW_.out hHeld ?_
         refine zon 17 (some 119) HT_.out (fun K hK=>?_)
         refine goes_ Tryz.func12 (by kernel_rfl) rfl #[.agg #[.slice Ao92 t32.length co92],.agg #[.string t35,.string t36,.string t37]] (by rfl) rfl rfl za11 ?_
         with_reducible refine (impl_IsModel.calls k2 _ _ t32 t35 t36 t37 t42 _ ?side1 ?side2 A86.out).mono ?_
         (case side1=>repeat ((exact (Kd.N_reads' HO34.out).2.2)))
         (case side2=>exact (Kd.N_reads' HO34.out).2.1)
         rintro e w105 ⟨rfl,hb⟩
         have HS11_:=(hb.cell (World.block_lt_of_cell? _ _ (hHeld.2.2.2.2.2.2.2.2.2.2.2.1))).trans (hHeld.2.2.2.2.2.2.2.2.2.2.2.1)
         have HS12_:=(hb.cell (World.block_lt_of_cell? _ _ (hHeld.2.2.2.2.2.2.2.2.2.2.2.2.1))).trans (hHeld.2.2.2.2.2.2.2.2.2.2.2.2.1)
         have HS13_:=(hb.cell (World.block_lt_of_cell? _ _ (hHeld.2.2.2.2.2.2.2.2.2.2.2.2.2))).trans (hHeld.2.2.2.2.2.2.2.2.2.2.2.2.2)
         refine ⟨_,rfl,?_⟩
         replace HO_5:=zk (Kd.R_below (za1 HO_5.out) hb)
         replace HO_6:=zk (Kd.R_below (za1 HO_6.out) hb)
         replace HO_3007000:=zk (Kd.N_below (za4 HO_3007000.out) hb)
         replace HO34:=zk (Kd.N_below (za4 HO34.out) hb)
         replace BK6:=yb BK6 hb
         replace BK17:=yb BK17 hb
         replace BK22:=yb BK22 hb
         replace BK38:=yb BK38 hb
         replace BK39:=yb BK39 hb
         replace HB:=yB HB hb
         (try clear hb)
         (try clear hb2)
         (try clear hk)
         (try clear hi)
         refine hK.out _ _ ⟨(blk_cell BK22.out 0).trans rfl,(blk_cell BK22.out 1).trans rfl,(blk_cell BK22.out 2).trans rfl,(blk_cell BK6.out 0).trans rfl,(blk_cell BK17.out 0).trans rfl,(blk_cell BK17.out 1).trans rfl,(blk_cell BK17.out 2).trans rfl,(blk_cell BK38.out 0).trans rfl,(blk_cell BK39.out 0).trans rfl,(blk_cell BK39.out 1).trans rfl,(blk_cell BK39.out 2).trans rfl,HS11_,HS12_,HS13_⟩ (fun hHeld=>?_)
         clear hK K
         refine zno (some 119) ?_
         refine zon 20 (some 122) HT_.out (fun K hK=>?_)
         refine goes_ Tryz.func15 (by kernel_rfl) rfl #[.agg #[.slice Ao92 t32.length co92],.agg #[.string t35,.string t36,.string t37]] (by rfl) rfl rfl za11 ?_
         with_reducible refine (spec_IsModel.calls k2 _ _ t32 t35 t36 t37 t43 _ ?side1 ?side2 A87.out).mono ?_
         (case side1=>repeat ((exact (Kd.N_reads' HO34.out).2.2)))
         (case side2=>exact (Kd.N_reads' HO34.out).2.1)
         rintro e w106 ⟨rfl,hb⟩
         have HS11_:=(hb.cell (World.block_lt_of_cell? _ _ (hHeld.2.2.2.2.2.2.2.2.2.2.2.1))).trans (hHeld.2.2.2.2.2.2.2.2.2.2.2.1)
         have HS12_:=(hb.cell (World.block_lt_of_cell? _ _ (hHeld.2.2.2.2.2.2.2.2.2.2.2.2.1))).trans (hHeld.2.2.2.2.2.2.2.2.2.2.2.2.1)
         have HS13_:=(hb.cell (World.block_lt_of_cell? _ _ (hHeld.2.2.2.2.2.2.2.2.2.2.2.2.2))).trans (hHeld.2.2.2.2.2.2.2.2.2.2.2.2.2)
         refine ⟨_,rfl,?_⟩
         replace HO_5:=zk (Kd.R_below (za1 HO_5.out) hb)
         replace HO_6:=zk (Kd.R_below (za1 HO_6.out) hb)
         replace HO_3007000:=zk (Kd.N_below (za4 HO_3007000.out) hb)
         replace HO34:=zk (Kd.N_below (za4 HO34.out) hb)
         replace BK6:=yb BK6 hb
         replace BK17:=yb BK17 hb
         replace BK22:=yb BK22 hb
         replace BK38:=yb BK38 hb
         replace BK39:=yb BK39 hb
         replace HB:=yB HB hb
         (try clear hb)
         (try clear hb2)
         (try clear hk)
         (try clear hi)
         refine hK.out _ _ ⟨(blk_cell BK22.out 0).trans rfl,(blk_cell BK22.out 1).trans rfl,(blk_cell BK22.out 2).trans rfl,(blk_cell BK6.out 0).trans rfl,(blk_cell BK17.out 0).trans rfl,(blk_cell BK17.out 1).trans rfl,(blk_cell BK17.out 2).trans rfl,(blk_cell BK38.out 0).trans rfl,(blk_cell BK39.out 0).trans rfl,(blk_cell BK39.out 1).trans rfl,(blk_cell BK39.out 2).trans rfl,HS11_,HS12_,HS13_⟩ (fun hHeld=>?_)
         clear hK K
         refine zno (some 122) ?_
         refine zy 21 (some 123) HT_.out ?_
         refine zy 22 (some 124) HT_.out ?_
         refine zy 23 (some 2) HT_.out ?_
         refine done_ (done_of HT_.out (by kernel_rfl)) ?_
         try go_wp2
         go_ret
         exact ⟨by (rfl),za10⟩
        ·replace c85:=Bool.eq_false_iff.mpr c85
         subst c85
         have H1:(some false)=some r:=by rw [if_neg zff] at H;exact H
         exact absurd ((zi H1).trans HRT_.out) (by decide)
        ·rw [if_neg c83] at H
         exact absurd ((zi H).trans HRT_.out) (by decide)
        ·rw [if_neg c82] at H
         exact absurd H (by simp)
        ·replace c81:=Bool.eq_false_iff.mpr c81
         subst c81
         rw [if_neg zff] at H
         try dsimp only at H
         obtain ⟨t44,A140,H⟩:=zO H
         try dsimp only at H
         obtain ⟨t45,A141,H⟩:=zO H
         try dsimp only at H
         obtain rfl:=zi H
         obtain ⟨Ao142,co142,eo142⟩:=Kd.R_slice HO_5.out
         subst eo142
         try go_wp2_with (first|((with_reducible refine gate_callee (f:=14) rfl ?_);refine zg (some 99) Tryz.func14 #[.slice A0 l0.length c0] rfl za11 ?_;(with_reducible refine (spec_DrawIsModel.calls k2 _ _ l0 t32 t35 t36 t37 _ ?side1 ?side2 A80.out).mono ?_);(case side1=>repeat ((exact (Kd.C_below HR0.out HB.out))));(case side2=>exact HC0.out);rintro e w143 ⟨v33,rfl,ho0,hb⟩;refine ⟨_,rfl,?_⟩;have HO34:=zk (Kd.N_lower (Kd.N_mono (ok':=fun k_=>some k_ ≠ (.slice Ao142 t7.length co142:Value).ownBlock∧some k_ ≠ (v3011:Value).ownBlock∧some k_ ≠ (.slice Ao12 t2.length co12:Value).ownBlock∧k_ ≠ gb6∧k_ ≠ gb17∧k_ ≠ gb22) ho0 (fun k_ hk_=>⟨(Kd.fresh' (Kd.R_lt (za1 HO_5.out)) k_ hk_),(Kd.fresh' (Kd.R_lt (za1 HO_6.out)) k_ hk_),(Kd.fresh' (Kd.N_lt (za4 HO_3007000.out)) k_ hk_),(zF BK6.out k_ hk_),(zF BK17.out k_ hk_),(zF BK22.out k_ hk_)⟩)) (below_size za10));replace HO_5:=zk (Kd.R_below (za1 HO_5.out) hb);replace HO_6:=zk (Kd.R_below (za1 HO_6.out) hb);replace HO_3007000:=zk (Kd.N_elder' (za4 HO_3007000.out) (Kd.N_base ho0) hb);replace BK6:=yb BK6 hb;replace BK17:=yb BK17 hb;replace BK22:=yb BK22 hb;replace HB:=yB HB hb;(try clear hb ho0))|((with_reducible refine gate_dst (N:=12) rfl ?_);(try (refine gate_guard (by rfl) ?_;dsimp only));refine zE (cs:=#[.slice none 0 0]) (t:=26) ?_;intro gb38 hg w144 hbox hb;replace HO_5:=zk (Kd.R_below (za1 HO_5.out) hb);replace HO_6:=zk (Kd.R_below (za1 HO_6.out) hb);replace HO_3007000:=zk (Kd.N_below (Kd.N_elderB (za4 HO_3007000.out) gb38 (Nat.le_of_eq hg.symm)) hb);replace HO34:=zk (Kd.N_below (Kd.N_elderB (za4 HO34.out) gb38 (Nat.le_of_eq hg.symm)) hb);have BK38:=zk hbox;have GW38:=zk (zs (w:=w) hg za10);have GE38:=GW38;have NB6_38:=yn hg BK6;have NB38_6:=yp hg BK6;have NB17_38:=yn hg BK17;have NB38_17:=yp hg BK17;have NB22_38:=yn hg BK22;have NB38_22:=yp hg BK22;replace BK6:=yb BK6 hb;replace BK17:=yb BK17 hb;replace BK22:=yb BK22 hb;replace HB:=yB HB hb;clear hb hbox hg)|((with_reducible refine gate_dst (N:=13) rfl ?_);(try (refine gate_guard (by rfl) ?_;dsimp only));refine zE (cs:=#[.string ⟨#[]⟩,.string ⟨#[]⟩,.string ⟨#[]⟩]) (t:=32) ?_;intro gb39 hg w145 hbox hb;replace HO_5:=zk (Kd.R_below (Kd.R_elderB (za1 HO_5.out) gb39 (Nat.le_of_eq hg.symm)) hb);replace HO_6:=zk (Kd.R_below (Kd.R_elderB (za1 HO_6.out) gb39 (Nat.le_of_eq hg.symm)) hb);replace HO_3007000:=zk (Kd.N_below (Kd.N_elderB (za4 HO_3007000.out) gb39 (Nat.le_of_eq hg.symm)) hb);replace HO34:=zk (Kd.N_below (Kd.N_elderB (za4 HO34.out) gb39 (Nat.le_of_eq hg.symm)) hb);have BK39:=zk hbox;have GW39:=zk (zs (w:=w) hg za10);have GE39:=GW39;have NB6_39:=yn hg BK6;have NB39_6:=yp hg BK6;have NB17_39:=yn hg BK17;have NB39_17:=yp hg BK17;have NB22_39:=yn hg BK22;have NB39_22:=yp hg BK22;have NB38_39:=yn hg BK38;have NB39_38:=yp hg BK38;replace BK6:=yb BK6 hb;replace BK17:=yb BK17 hb;replace BK22:=yb BK22 hb;replace BK38:=yb BK38 hb;replace HB:=yB HB hb;clear hb hbox hg;obtain ⟨Ao146,co146,eo146⟩:=Kd.N_slice HO34.out;subst eo146;have hnb147:=NB38_6.out;have hnc147:=NB6_38.out;have hnb148:=NB38_17.out;have hnc148:=NB17_38.out;have hnb149:=NB38_22.out;have hnc149:=NB22_38.out;have hnb150:=NB38_39.out;have hnc150:=NB39_38.out;obtain ⟨hcz151_0,hfz151_0⟩:=blk1 BK38.out;have hnb152:=NB39_6.out;have hnc152:=NB6_39.out;have hnb153:=NB39_17.out;have hnc153:=NB17_39.out;have hnb154:=NB39_22.out;have hnc154:=NB22_39.out;obtain ⟨hcz155_0,hcz155_1,hcz155_2,hfz155_0,hfz155_1,hfz155_2⟩:=blk3 BK39.out))
         have n0_:Aside0 (Kd.R k32 32 ((((w145.setCell ⟨gb38,0,none⟩ (.slice Ao146 t32.length co146)).setCell ⟨gb39,0,none⟩ (.string t35)).setCell ⟨gb39,1,none⟩ (.string t36)).setCell ⟨gb39,2,none⟩ (.string t37)) w.heap.size (fun k_=>some k_ ≠ (v3011:Value).ownBlock∧k_ ≠ gb17∧k_ ≠ gb22∧k_ ≠ gb39) (.slice Ao142 t7.length co142) t7):=⟨by (with_reducible repeat ((apply Kd.R_alloc)));exact Kd.R_mono (zfR (zfR (zfR (Kd.R_far (p:=⟨gb38,0,none⟩) (Kd.R_mono (Kd.R_types HO_5.out BK38.out (by decide)) (fun k_ hk=>(⟨hk,hk.1.2⟩:_∧k_ ≠ gb39))) (fun _ hk=>hk.1.2) (.slice Ao146 t32.length co146))))) (fun _ hk=>⟨hk.1.1.1.1,⟨hk.1.1.1.2.1,⟨hk.1.1.1.2.2,hk.1.1.2⟩⟩⟩)⟩
         have n1_:Aside0 (Kd.R k32 32 ((((w145.setCell ⟨gb38,0,none⟩ (.slice Ao146 t32.length co146)).setCell ⟨gb39,0,none⟩ (.string t35)).setCell ⟨gb39,1,none⟩ (.string t36)).setCell ⟨gb39,2,none⟩ (.string t37)) w.heap.size (fun k_=>some k_ ≠ (.slice Ao142 t7.length co142:Value).ownBlock∧k_ ≠ gb17∧k_ ≠ gb22∧k_ ≠ gb39) v3011 t10):=⟨by (with_reducible repeat ((apply Kd.R_alloc)));exact Kd.R_mono (zfR (zfR (zfR (Kd.R_far (p:=⟨gb38,0,none⟩) (Kd.R_mono (Kd.R_types HO_6.out BK38.out (by decide)) (fun k_ hk=>(⟨hk,hk.1.2⟩:_∧k_ ≠ gb39))) (fun _ hk=>hk.1.2) (.slice Ao146 t32.length co146))))) (fun _ hk=>⟨hk.1.1.1.1,⟨hk.1.1.1.2.1,⟨hk.1.1.1.2.2,hk.1.1.2⟩⟩⟩)⟩
         have n2_:Aside0 (Kd.N k56 56 ((((w145.setCell ⟨gb38,0,none⟩ (.slice Ao146 t32.length co146)).setCell ⟨gb39,0,none⟩ (.string t35)).setCell ⟨gb39,1,none⟩ (.string t36)).setCell ⟨gb39,2,none⟩ (.string t37)) w.heap.size (fun k_=>some k_ ≠ (.slice Ao142 t7.length co142:Value).ownBlock∧some k_ ≠ (v3011:Value).ownBlock∧some k_ ≠ (.slice Ao146 t32.length co146:Value).ownBlock∧k_ ≠ gb6∧k_ ≠ gb17∧k_ ≠ gb22∧k_ ≠ gb38∧k_ ≠ gb39) (.slice Ao12 t2.length co12) t2):=⟨by (with_reducible repeat ((apply Kd.N_alloc)));exact Kd.N_mono (zfN (zfN (zfN (Kd.N_far (p:=⟨gb38,0,none⟩) (Kd.N_mono (Kd.N_mono HO_3007000.out (fun k_ hk=>(⟨hk,hk.1.2⟩:_∧k_ ≠ gb38))) (fun k_ hk=>(⟨hk,hk.1.2⟩:_∧k_ ≠ gb39))) (fun _ hk=>hk.1.2) (.slice Ao146 t32.length co146))))) (fun _ hk=>⟨hk.1.1.1.1.1.1,⟨hk.1.1.1.1.1.2.1,⟨hk.1.1.1.1.2,⟨hk.1.1.1.1.1.2.2.1,⟨hk.1.1.1.1.1.2.2.2.1,⟨hk.1.1.1.1.1.2.2.2.2,⟨hk.1.1.1.2,hk.1.1.2⟩⟩⟩⟩⟩⟩⟩)⟩
         have n3_:Aside0 (Kd.N k56 56 ((((w145.setCell ⟨gb38,0,none⟩ (.slice Ao146 t32.length co146)).setCell ⟨gb39,0,none⟩ (.string t35)).setCell ⟨gb39,1,none⟩ (.string t36)).setCell ⟨gb39,2,none⟩ (.string t37)) w.heap.size (fun k_=>some k_ ≠ (.slice Ao142 t7.length co142:Value).ownBlock∧some k_ ≠ (v3011:Value).ownBlock∧some k_ ≠ (.slice Ao12 t2.length co12:Value).ownBlock∧k_ ≠ gb6∧k_ ≠ gb17∧k_ ≠ gb22∧k_ ≠ gb38∧k_ ≠ gb39) (.slice Ao146 t32.length co146) t32):=⟨by (with_reducible repeat ((apply Kd.N_alloc)));exact Kd.N_mono (zfN (zfN (zfN (Kd.N_far (p:=⟨gb38,0,none⟩) (Kd.N_mono (Kd.N_mono HO34.out (fun k_ hk=>(⟨hk,hk.1.2⟩:_∧k_ ≠ gb38))) (fun k_ hk=>(⟨hk,hk.1.2⟩:_∧k_ ≠ gb39))) (fun _ hk=>hk.1.2) (.slice Ao146 t32.length co146))))) (fun _ hk=>⟨hk.1.1.1.1.1,⟨hk.1.1.1.1.2.1,⟨hk.1.1.1.1.2.2.1,⟨hk.1.1.1.1.2.2.2.1,⟨hk.1.1.1.1.2.2.2.2.1,⟨hk.1.1.1.1.2.2.2.2.2,⟨hk.1.1.1.2,hk.1.1.2⟩⟩⟩⟩⟩⟩⟩)⟩
         have n4_:Aside0 (((((w145.setCell ⟨gb38,0,none⟩ (.slice Ao146 t32.length co146)).setCell ⟨gb39,0,none⟩ (.string t35)).setCell ⟨gb39,1,none⟩ (.string t36)).setCell ⟨gb39,2,none⟩ (.string t37)).heap[gb6]? = some (.cells #[.slice Ao12 t2.length co12] 26 (0,0))):=⟨zpw BK6.out⟩
         have n5_:Aside0 (((((w145.setCell ⟨gb38,0,none⟩ (.slice Ao146 t32.length co146)).setCell ⟨gb39,0,none⟩ (.string t35)).setCell ⟨gb39,1,none⟩ (.string t36)).setCell ⟨gb39,2,none⟩ (.string t37)).heap[gb17]? = some (.cells #[.string t13,.string t14,.string t15] 32 (0,0))):=⟨zpw BK17.out⟩
         have n6_:Aside0 (((((w145.setCell ⟨gb38,0,none⟩ (.slice Ao146 t32.length co146)).setCell ⟨gb39,0,none⟩ (.string t35)).setCell ⟨gb39,1,none⟩ (.string t36)).setCell ⟨gb39,2,none⟩ (.string t37)).heap[gb22]? = some (.cells #[.string t18,.string t19,.string t20] 32 (0,0))):=⟨zpw BK22.out⟩
         have n7_:Aside0 (((((w145.setCell ⟨gb38,0,none⟩ (.slice Ao146 t32.length co146)).setCell ⟨gb39,0,none⟩ (.string t35)).setCell ⟨gb39,1,none⟩ (.string t36)).setCell ⟨gb39,2,none⟩ (.string t37)).heap[gb38]? = some (.cells #[.slice Ao146 t32.length co146] 26 (0,0))):=⟨zpw BK38.out⟩
         have n8_:Aside0 (((((w145.setCell ⟨gb38,0,none⟩ (.slice Ao146 t32.length co146)).setCell ⟨gb39,0,none⟩ (.string t35)).setCell ⟨gb39,1,none⟩ (.string t36)).setCell ⟨gb39,2,none⟩ (.string t37)).heap[gb39]? = some (.cells #[.string t35,.string t36,.string t37] 32 (0,0))):=⟨zpw BK39.out⟩
         have n9_:Aside0 (Below w.heap.size w ((((w145.setCell ⟨gb38,0,none⟩ (.slice Ao146 t32.length co146)).setCell ⟨gb39,0,none⟩ (.string t35)).setCell ⟨gb39,1,none⟩ (.string t36)).setCell ⟨gb39,2,none⟩ (.string t37))):=⟨za10⟩
         (try clear HO_5)
         (try clear HO_6)
         (try clear HO_3007000)
         (try clear HO34)
         (try clear BK6)
         (try clear BK17)
         (try clear BK22)
         (try clear BK38)
         (try clear BK39)
         (try clear HB)
         generalize ((((w145.setCell ⟨gb38,0,none⟩ (.slice Ao146 t32.length co146)).setCell ⟨gb39,0,none⟩ (.string t35)).setCell ⟨gb39,1,none⟩ (.string t36)).setCell ⟨gb39,2,none⟩ (.string t37))=w156 at n0_ n1_ n2_ n3_ n4_ n5_ n6_ n7_ n8_ n9_ ⊢
         have HO_5:=n0_
         have HO_6:=n1_
         have HO_3007000:=n2_
         have HO34:=n3_
         have BK6:=n4_
         have BK17:=n5_
         have BK22:=n6_
         have BK38:=n7_
         have BK39:=n8_
         have HB:=n9_
         clear n0_ n1_ n2_ n3_ n4_ n5_ n6_ n7_ n8_ n9_
         replace HO_5:=zk (Kd.R_drew HO_5.out)
         replace HO_6:=zk (Kd.R_drew HO_6.out)
         replace HO_3007000:=zk (Kd.N_drew HO_3007000.out)
         replace HO34:=zk (Kd.N_drew HO34.out)
         replace BK6:=zk (blk_drew BK6.out)
         replace BK17:=zk (blk_drew BK17.out)
         replace BK22:=zk (blk_drew BK22.out)
         replace BK38:=zk (blk_drew BK38.out)
         replace BK39:=zk (blk_drew BK39.out)
         replace HB:=zk (below_drew1 HB.out)
         refine start_ (n:=24) (S:=fun w'=>w'.cell? ⟨gb38,0,none⟩=some (.slice Ao146 t32.length co146)∧w'.cell? ⟨gb39,0,none⟩=some (.string t35)∧w'.cell? ⟨gb39,1,none⟩=some (.string t36)∧w'.cell? ⟨gb39,2,none⟩=some (.string t37)) (ds:=[]) #[false,false,false,false,false,false,false,false,false,false,false,false,false,false,false,false,false,false,false,false,false,false,false,false] (by kernel_rfl) rfl rfl ⟨(blk_cell BK38.out 0).trans rfl,(blk_cell BK39.out 0).trans rfl,(blk_cell BK39.out 1).trans rfl,(blk_cell BK39.out 2).trans rfl⟩ (fun hHeld=>?_);refine with_tabW laws_FnModels.tab16 laws_FnModels.bits16 (fun HT_ HW_=>?_)
         generalize w156.drew=w157 at HO_5 HO_6 HO_3007000 HO34 BK6 BK17 BK22 BK38 BK39 HB hHeld ⊢
         refine zy 0 (some 102) HT_.out ?_
         refine zy 1 (some 103) HT_.out ?_
         refine zy 2 (some 104) HT_.out ?_
         refine zyu 3 (some 105) HT_.out ?_
         refine zyu 4 (some 106) HT_.out ?_
         refine zyu 5 (some 107) HT_.out ?_
         refine zyu 6 (some 108) HT_.out ?_
         refine zyu 7 (some 109) HT_.out ?_
         refine zyu 8 (some 110) HT_.out ?_
         refine zyu 9 (some 111) HT_.out ?_
         refine zyu 10 (some 112) HT_.out ?_
         refine zyu 11 (some 113) HT_.out ?_
         refine zyu 12 (some 114) HT_.out ?_
         refine zy 13 (some 115) HT_.out ?_
         refine zy 14 (some 116) HT_.out ?_
         refine ztk 15 (some 117) HT_.out HW_.out hHeld ?_
         refine ztk 16 (some 118) HT_.out HW_.out hHeld ?_
         refine ztk 18 (some 120) HT_.out HW_.out hHeld ?_
         refine ztk 19 (some 121) HT_.out HW_.out hHeld ?_
         refine zon 17 (some 119) HT_.out (fun K hK=>?_)
         refine goes_ Tryz.func12 (by kernel_rfl) rfl #[.agg #[.slice Ao146 t32.length co146],.agg #[.string t35,.string t36,.string t37]] (by rfl) rfl rfl za11 ?_
         with_reducible refine (impl_IsModel.calls k2 _ _ t32 t35 t36 t37 t44 _ ?side1 ?side2 A140.out).mono ?_
         (case side1=>repeat ((exact (Kd.N_reads' HO34.out).2.2)))
         (case side2=>exact (Kd.N_reads' HO34.out).2.1)
         rintro e w158 ⟨rfl,hb⟩
         refine ⟨_,rfl,?_⟩
         replace HO_5:=zk (Kd.R_below (za1 HO_5.out) hb)
         replace HO_6:=zk (Kd.R_below (za1 HO_6.out) hb)
         replace HO_3007000:=zk (Kd.N_below (za4 HO_3007000.out) hb)
         replace HO34:=zk (Kd.N_below (za4 HO34.out) hb)
         replace BK6:=yb BK6 hb
         replace BK17:=yb BK17 hb
         replace BK22:=yb BK22 hb
         replace BK38:=yb BK38 hb
         replace BK39:=yb BK39 hb
         replace HB:=yB HB hb
         (try clear hb)
         (try clear hb2)
         (try clear hk)
         (try clear hi)
         refine hK.out _ _ ⟨(blk_cell BK38.out 0).trans rfl,(blk_cell BK39.out 0).trans rfl,(blk_cell BK39.out 1).trans rfl,(blk_cell BK39.out 2).trans rfl⟩ (fun hHeld=>?_)
         clear hK K
         refine zno (some 119) ?_
         refine zon 20 (some 122) HT_.out (fun K hK=>?_)
         refine goes_ Tryz.func15 (by kernel_rfl) rfl #[.agg #[.slice Ao146 t32.length co146],.agg #[.string t35,.string t36,.string t37]] (by rfl) rfl rfl za11 ?_
         with_reducible refine (spec_IsModel.calls k2 _ _ t32 t35 t36 t37 t45 _ ?side1 ?side2 A141.out).mono ?_
         (case side1=>repeat ((exact (Kd.N_reads' HO34.out).2.2)))
         (case side2=>exact (Kd.N_reads' HO34.out).2.1)
         rintro e w159 ⟨rfl,hb⟩
         refine ⟨_,rfl,?_⟩
         replace HO_5:=zk (Kd.R_below (za1 HO_5.out) hb)
         replace HO_6:=zk (Kd.R_below (za1 HO_6.out) hb)
         replace HO_3007000:=zk (Kd.N_below (za4 HO_3007000.out) hb)
         replace HO34:=zk (Kd.N_below (za4 HO34.out) hb)
         replace BK6:=yb BK6 hb
         replace BK17:=yb BK17 hb
         replace BK22:=yb BK22 hb
         replace BK38:=yb BK38 hb
         replace BK39:=yb BK39 hb
         replace HB:=yB HB hb
         (try clear hb)
         (try clear hb2)
         (try clear hk)
         (try clear hi)
         refine hK.out _ _ ⟨(blk_cell BK38.out 0).trans rfl,(blk_cell BK39.out 0).trans rfl,(blk_cell BK39.out 1).trans rfl,(blk_cell BK39.out 2).trans rfl⟩ (fun hHeld=>?_)
         clear hK K
         refine zno (some 122) ?_
         refine zy 21 (some 123) HT_.out ?_
         refine zy 22 (some 124) HT_.out ?_
         refine zy 23 (some 2) HT_.out ?_
         refine done_ (done_of HT_.out (by kernel_rfl)) ?_
         try go_wp2
         go_ret
         exact ⟨by (rfl),za10⟩
end Go.Proofs.YtcbjhfoeecfcoaaGreat.A
namespace Go.Proofs.YtcbjhfoeecfcoaaGreat.Br
open Go YtcbjhfoeecfcoaaGreatW.PrintWords
def BrN (P:Program) (n:Nat) (t:TypeId) {α:Type} (d:Kd α) (wf:α→Prop):Prop :=
 ∀ (H:Type) (enc:TypeId × Value→H) (w:World) (base:Nat) (spare:Nat→Bool) (held:Bool) (m:Nat) (cs:List Value) (x:DataW H × List MemPlace),
  m≤n→DataW.trod enc P w base spare held m t cs=some x→∃ a,d.K w a cs∧wf a
def Br (P:Program) (t:TypeId) {α:Type} (d:Kd α) (wf:α→Prop):Prop:=∀ n,BrN P n t d wf
theorem BrN.mono {P:Program} {n m:Nat} {t:TypeId} {α:Type} {d:Kd α} {wf:α→Prop} (h:BrN P n t d wf) (hm:m≤n):BrN P m t d wf :=
 fun H enc w base spare held k cs x hk=>h H enc w base spare held k cs x (Nat.le_trans hk hm)
theorem BrN.imp {P:Program} {n:Nat} {t:TypeId} {α:Type} {d:Kd α} {wf wf':α→Prop} (h:BrN P n t d wf) (hi:∀ a,wf a→wf' a):BrN P n t d wf' :=
 fun H enc w base spare held k cs x hk hx=>by
  obtain ⟨a,h1,h2⟩:=h H enc w base spare held k cs x hk hx
  exact ⟨a,h1,hi a h2⟩
theorem BrN.zero (P:Program) (t:TypeId) {α:Type} (d:Kd α) (wf:α→Prop):BrN P 0 t d wf:=by
 intro H enc w base spare held m cs x hm hx
 obtain rfl:m=0:=by omega
 simp [DataW.trod] at hx
theorem br_int {P:Program} {t:TypeId} {k:IntKind} (ht:P.underlying t=some (.int k)) (n:Nat):BrN P n t (Kd.int k) (fun a=>(Lit.int k a).wf=true):=by
 intro H enc w base spare held m cs x _ hx
 obtain ⟨a,rfl,_,hw⟩:=DataW.trod_int ht hx
 exact ⟨a,rfl,hw⟩
theorem list_of_all {α:Type} {Q:Nat→α→Prop} (n:Nat) (h:∀ i,i < n→∃ a,Q i a):∃ l:List α,l.length=n∧∀ i a,l[i]? = some a→Q i a:=by
 induction n with
 | zero=>exact ⟨[],rfl,fun i a h=>by simp at h⟩
 | succ n ih =>
  obtain ⟨l,hl,hq⟩:=ih (fun i hi=>h i (by omega))
  obtain ⟨a,ha⟩:=h n (by omega)
  refine ⟨l ++ [a],by simp [hl],fun i b hb=>?_⟩
  rcases Nat.lt_or_ge i l.length with hi|hi
  ·rw [List.getElem?_append_left hi] at hb
   exact hq i b hb
  ·rw [List.getElem?_append_right hi] at hb
   obtain ⟨h0,rfl⟩:i - l.length=0∧a=b:=by
    rcases Nat.eq_zero_or_pos (i - l.length) with h0|h0
    ·rw [h0] at hb;exact ⟨h0,by simpa using hb⟩
    ·rw [List.getElem?_eq_none (by simp;omega)] at hb;simp at hb
   obtain rfl:i=n:=by omega
   exact ha
theorem cells_at {w:World} {base:Nat} {a:Addr} {n:Nat} {cs:List Value} (h:w.cells? base a n=some cs):cs.length=n∧∀ i u,cs[i]? = some u→w.cell? (a.add i)=some u:=by
 unfold World.cells? at h
 split at h
 ·have hl:=mapM_some_length h
  refine ⟨by simpa using hl,fun i u hu=>?_⟩
  have hi:i < n:=by
   have:=(List.getElem?_eq_some_iff.1 hu).1
   simp at hl
   omega
  have:=mapM_some_get h i i (by simp [hi])
  rw [this,hu]
 ·simp at h
theorem br_slice {P:Program} {t e:TypeId} {α:Type} {d:Kd α} {wf:α→Prop} {n:Nat} (ht:P.underlying t=some (.slice e)) (hs:P.cellsOf e=d.sz) (h:BrN P n e d wf) :
  BrN P (n+1) t (Kd.slice e d) (fun l=>l.length≤9223372036854775807∧∀ a ∈ l,wf a):=by
 intro H enc w base spare held m cs x hm hx
 rcases DataW.trod_slice ht hx with ⟨rfl,_⟩|⟨a,len,cap,elems,rest,k,rfl,rfl,_,_,hl,hc,he,hg,_,_⟩
 ·exact ⟨[],⟨none,0,rfl,Nat.le_refl _,Kd.C_nil d w⟩,by simp,by simp⟩
 ·have hq:∀ i,i < len→∃ b,(∃ c,c.length=d.sz∧d.K w b c∧∀ j u,c[j]? = some u→w.cell? (a.add (i * d.sz+j))=some u)∧wf b:=by
   intro i hi
   have g:=hg i hi
   rw [List.getElem?_eq_getElem (by omega)] at g
   obtain ⟨c,hc1,hc2⟩:=Option.bind_eq_some_iff.1 g
   obtain ⟨b,hb,hw⟩:=h H enc w base spare held k c _ (by omega) hc2
   obtain ⟨h1,h2⟩:=cells_at hc1
   refine ⟨b,⟨c,by rw [h1,hs],hb,fun j u hu=>?_⟩,hw⟩
   have:=h2 j u hu
   rw [Addr.add_add,hs] at this
   exact this
  obtain ⟨l,hl1,hl2⟩:=list_of_all len hq
  have hlen:len≤9223372036854775807:=by simp only [maxLen] at hc;omega
  refine ⟨l,⟨some a,cap,by rw [hl1],by omega,rfl,by omega,fun _=>⟨a,rfl,fun j p hp=>(hl2 j p hp).1⟩⟩,by omega,fun b hb=>?_⟩
  obtain ⟨i,hi,rfl⟩:=List.mem_iff_getElem.1 hb
  exact (hl2 i _ (List.getElem?_eq_getElem hi)).2
theorem br_slice' {P:Program} {t e:TypeId} {α:Type} {d:Kd α} {wf:α→Prop} (ht:P.underlying t=some (.slice e)) (hs:P.cellsOf e=d.sz) (h:∀ n,BrN P n e d wf) (n:Nat) :
 BrN P n t (Kd.slice e d) (fun l=>l.length≤9223372036854775807∧∀ a ∈ l,wf a):=(br_slice ht hs (h n)).mono (Nat.le_succ n)
end Go.Proofs.YtcbjhfoeecfcoaaGreat.Br
namespace Go.Proofs.YtcbjhfoeecfcoaaGreat.Pure
open Go Go.RowKit YtcbjhfoeecfcoaaGreat.Br YtcbjhfoeecfcoaaGreatW.PrintWords YtcbjhfoeecfcoaaGreatW.PrintLast YtcbjhfoeecfcoaaGreat.A YtcbjhfoeecfcoaaGreat.Ext
def FnModels.Pure:Prop:=∀ (l0:(List Int)),((l0:(List Int)).length≤9223372036854775807∧∀ a ∈ l0,(Lit.int .u8 a).wf=true)→∃ k,laws_FnModels.f k l0=some true
end Go.Proofs.YtcbjhfoeecfcoaaGreat.Pure
namespace Go.Proofs.YtcbjhfoeecfcoaaGreat.Pl
open Go.RowKit YtcbjhfoeecfcoaaGreatW.PrintWords
def Evt {α:Type} (g:Nat→Option α) (r:α):Prop:=∃ K,∀ k,K≤k→g k=some r
section
variable {α β : Type}
theorem Evt.const {g:Option α} {r:α} (h:g=some r):Evt (fun _=>g) r:=⟨0,fun _ _=>h⟩
theorem Evt.ret (r:α):Evt (fun _=>some r) r:=Evt.const rfl
theorem Evt.bind {g:Nat→Option α} {f:Nat→α→Option β} {a:α} {r:β} (hg:Evt g a) (hf:Evt (fun k=>f k a) r):Evt (fun k=>(g k).bind (f k)) r:=by
 obtain ⟨K,hK⟩:=hg
 obtain ⟨L,hL⟩:=hf
 exact ⟨max K L,fun k hk=>by show (g k).bind (f k)=some r;rw [hK k (by omega)];exact hL k (by omega)⟩
theorem Evt.bindc {g:Option α} {f:Nat→α→Option β} {a:α} {r:β} (hg:g=some a) (hf:Evt (fun k=>f k a) r):Evt (fun k=>g.bind (f k)) r:=Evt.bind (Evt.const hg) hf
theorem Evt.step {g:Nat→Option α} {r:α} (h:Evt (fun k=>g (k+1)) r):Evt g r:=by
 obtain ⟨K,hK⟩:=h
 exact ⟨K+1,fun k hk=>by
  obtain ⟨m,rfl⟩:∃ m,k=m+1:=⟨k - 1,by omega⟩
  exact hK m (by omega)⟩
theorem Evt.pos {c:Prop} [Decidable c] {t e:Nat→Option α} {r:α} (h:c) (ht:Evt t r):Evt (fun k=>if c then t k else e k) r:=by
 obtain ⟨K,hK⟩:=ht
 exact ⟨K,fun k hk=>(if_pos h).trans (hK k hk)⟩
theorem Evt.neg {c:Prop} [Decidable c] {t e:Nat→Option α} {r:α} (h:¬ c) (ht:Evt e r):Evt (fun k=>if c then t k else e k) r:=by
 obtain ⟨K,hK⟩:=ht
 exact ⟨K,fun k hk=>(if_neg h).trans (hK k hk)⟩
theorem Evt.ite {c:Prop} [Decidable c] {t e:Nat→Option α} {x y:α} (ht:c→Evt t x) (he:¬ c→Evt e y):Evt (fun k=>if c then t k else e k) (if c then x else y):=by
 by_cases h:c
 ·rw [if_pos h];exact Evt.pos h (ht h)
 ·rw [if_neg h];exact Evt.neg h (he h)
theorem Evt.get {g:Nat→Option α} {r:α} (h:Evt g r):∃ k,g k=some r:=by
 obtain ⟨K,hK⟩:=h
 exact ⟨K,hK K (Nat.le_refl _)⟩
theorem Evt.cast {g:Nat→Option α} {r r':α} (h:Evt g r) (e:r=r'):Evt g r':=e ▸ h
theorem Evt.up (l:Nat→Int→Option α) (n:Nat) (R:Nat→α) (hend:Evt (fun k=>l k (n:Int)) (R n))
  (hstep:∀ i:Nat,i < n→Evt (fun k=>l k ((i+1:Nat):Int)) (R (i+1))→Evt (fun k=>l k (i:Int)) (R i)):Evt (fun k=>l k 0) (R 0):=by
 have h:∀ d i:Nat,i+d=n→Evt (fun k=>l k (i:Int)) (R i):=by
  intro d
  induction d with
  | zero =>
   intro i hi
   obtain rfl:i=n:=by omega
   exact hend
  | succ d ih =>
   intro i hi
   exact hstep i (by omega) (ih (i+1) (by omega))
 exact h n 0 (by omega)
end
theorem w64 {x:Int} (h : -9223372036854775808≤x) (h':x≤9223372036854775807):wrap64 x=x:=by unfold wrap64;omega
theorem w64s {i:Nat} (h:i < 9223372036854775807):wrap64 ((i:Int)+1)=((i+1:Nat):Int):=by
 rw [w64 (by omega) (by omega)];omega
theorem bt0 (s:ByteArray) (i:Int):0≤bt s i:=(bt_range s i).1
theorem bt255 (s:ByteArray) (i:Int):bt s i≤255:=(bt_range s i).2
theorem bt_get (s:ByteArray) (i:Nat) (h:i < (bytesOf s).length):bt s (i:Int)=(bytesOf s)[i]:=by
 rw [← rd_bytesOf]
 simp [rd,h]
theorem bytesOf_inj {s t:ByteArray} (h:bytesOf s=bytesOf t):s=t:=by
 have h1:s.data.toList=t.data.toList:=by
  refine List.map_inj_right (f:=fun b:UInt8=>(b.toNat:Int)) (fun x y hxy=>?_) |>.1 h
  exact UInt8.toNat_inj.1 (Int.ofNat_inj.1 hxy)
 cases s;cases t
 simp only [ByteArray.mk.injEq]
 exact Array.toList_inj.1 h1
theorem toList_nil_iff (s:ByteArray):s.toList=([]:List UInt8) ↔ s.size=0:=by
 rw [Lib.toList_data,← data_length,List.length_eq_zero_iff]
theorem bytesOf_append (s t:ByteArray):bytesOf (s ++ t)=bytesOf s ++ bytesOf t:=by
 simp [bytesOf,ByteArray.data_append]
theorem bytesOf_extract (s:ByteArray) (a b:Nat):bytesOf (s.extract a b)=((bytesOf s).drop a).take (b - a):=by
 have h:=Lib.extract_toList s a b
 rw [Lib.toList_data] at h
 unfold bytesOf
 rw [h,List.map_take,List.map_drop]
theorem bytesOf_tail (s:ByteArray) (a:Nat):bytesOf (s.extract a s.size)=(bytesOf s).drop a:=by
 rw [bytesOf_extract,List.take_of_length_le]
 rw [List.length_drop,bytesOf_length]
 exact Nat.le_refl _
def ltI (c:Int):Int:=if 97=c then 0 else if 98=c then 1 else if 99=c then 2 else -1
def varI (c:Int):Int:=if 88=c then 0 else if 89=c then 1 else if 90=c then 2 else -1
def isVr (c:Int):Bool:=decide (88≤c∧c≤90)
theorem ix_abc:∀ n:Nat,n < 256→Lib.indexByte [97,98,99] n.toUInt8=ltI (n:Int):=by decide +kernel
theorem ix_XYZ:∀ n:Nat,n < 256→Lib.indexByte [88,89,90] n.toUInt8=varI (n:Int):=by decide +kernel
theorem varI_isVar (c:Int):decide (varI c ≥ 0)=isVr c:=by
 unfold varI isVr
 split
 ·subst_vars;rfl
 ·split
  ·subst_vars;rfl
  ·split
   ·subst_vars;rfl
   ·simp;omega
theorem bt_abc0:bt (⟨#[97,98,99]⟩:ByteArray) 0=97:=by decide
theorem bt_abc1:bt (⟨#[97,98,99]⟩:ByteArray) 1=98:=by decide
theorem bt_abc2:bt (⟨#[97,98,99]⟩:ByteArray) 2=99:=by decide
theorem bt_XYZ0:bt (⟨#[88,89,90]⟩:ByteArray) 0=88:=by decide
theorem bt_XYZ1:bt (⟨#[88,89,90]⟩:ByteArray) 1=89:=by decide
theorem bt_XYZ2:bt (⟨#[88,89,90]⟩:ByteArray) 2=90:=by decide
theorem w64_a:wrap64 1=1:=by unfold wrap64;omega
theorem w64_b:wrap64 2=2:=by unfold wrap64;omega
theorem w64_c:wrap64 3=3:=by unfold wrap64;omega
theorem w64_1:wrap64 (0+1)=1:=by unfold wrap64;omega
theorem w64_2:wrap64 (1+1)=2:=by unfold wrap64;omega
theorem w64_3:wrap64 (2+1)=3:=by unfold wrap64;omega
theorem indexByte_nonneg (l:List UInt8) (c:UInt8):0≤Lib.indexByte l c ↔ c ∈ l:=by
 induction l with
 | nil=>simp [Lib.indexByte]
 | cons b l ih =>
  unfold Lib.indexByte
  by_cases h:b=c
  ·subst h;simp
  ·have hb:(b == c)=false:=by simpa using h
   rw [hb]
   have hge:=Lib.indexByte_ge l c
   by_cases h2:Lib.indexByte l c = -1
   ·simp only [h2]
    simp
    refine ⟨fun e=>h e.symm,fun hm=>?_⟩
    have:=ih.2 hm
    omega
   ·have h3:(Lib.indexByte l c == -1)=false:=by simpa using h2
    rw [h3]
    simp
    constructor
    ·intro _;exact .inr (ih.1 (by omega))
    ·rintro (e|hm)
     ·exact absurd e.symm h
     ·have:=ih.2 hm;omega
theorem mem_data (s:ByteArray) (n:Nat) (hn:n < 256):n.toUInt8 ∈ s.data.toList ↔ (n:Int) ∈ bytesOf s:=by
 unfold bytesOf
 rw [List.mem_map]
 constructor
 ·intro h
  exact ⟨_,h,by simp [Nat.mod_eq_of_lt hn]⟩
 ·rintro ⟨b,hb,e⟩
  have e2:b.toNat=n:=by omega
  subst e2
  simpa using hb
end Go.Proofs.YtcbjhfoeecfcoaaGreat.Pl
