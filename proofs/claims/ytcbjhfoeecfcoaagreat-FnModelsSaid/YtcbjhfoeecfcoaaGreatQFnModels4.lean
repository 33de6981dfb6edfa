/- FnModels: what its proof needs, put together by this session's program wip/merge.py out of the texts that wip/xp.py printed and of this session's own. -/
import Derived.Test.YtcbjhfoeecfcoaaGreatQFnModels3
set_option linter.unusedVariables false
set_option linter.unusedSimpArgs false
set_option linter.unusedSectionVars false
set_option maxHeartbeats 8000000
set_option maxRecDepth 100000
namespace Go.Proofs.YtcbjhfoeecfcoaaGreat.A
open Go.RowKit YtcbjhfoeecfcoaaGreat.Ext YtcbjhfoeecfcoaaGreatW.PrintWords YtcbjhfoeecfcoaaGreatW.PrintLast YtcbjhfoeecfcoaaGreatW.PrintMore
attribute [local go_sem] max2_int min2_int max_two min_two max_three min_three max_four min_four
def spec_l9Bent.f (k:Nat) (s0_0:List Int) (s0_1:Int) (s0_2:Int):Option (Int × ByteArray × ByteArray × Int × ByteArray × (List (S54)) × List Int × Int × Int × Int):=(spec_l9Draw.f k s0_0 s0_1 s0_2 (⟨#[88,89,90]⟩:ByteArray)).bind fun bt60002=>((spec_l1Below.f s0_0 bt60002.2.2.2.2.2.2.2.2.1 bt60002.2.2.2.2.2.2.2.2.2 10).bind fun bt60017=>(if bt60017.1=0 then ((spec_l1Below.f s0_0 bt60017.2.1 bt60017.2.2 7).bind fun bt60020=>(some (bt60020.1,bt60002.2.1,bt60002.2.2.1,bt60002.2.2.2.1,bt60002.2.2.2.2.1,bt60002.2.2.2.2.2.1,bt60002.2.2.2.2.2.2.1,bt60002.2.2.2.2.2.2.2.1,bt60020.2.1,bt60020.2.2))) else (if bt60017.1=1 then ((spec_l8Any.f k s0_0 bt60017.2.1 bt60017.2.2).bind fun bt60023=>(some (bt60002.1,bt60023.1,bt60002.2.2.1,bt60002.2.2.2.1,bt60002.2.2.2.2.1,bt60002.2.2.2.2.2.1,bt60002.2.2.2.2.2.2.1,bt60002.2.2.2.2.2.2.2.1,bt60023.2.1,bt60023.2.2))) else (if bt60017.1=2 then ((spec_l1PickInt.f s0_0 bt60017.2.1 bt60017.2.2 (([99,100,(-99)]:List Int))).bind fun bt60029=>(some (bt60002.1,bt60002.2.1,bt60002.2.2.1,bt60002.2.2.2.1,bt60002.2.2.2.2.1,bt60002.2.2.2.2.2.1,bt60002.2.2.2.2.2.2.1,bt60029.1,bt60029.2.1,bt60029.2.2))) else (if bt60017.1=3 then ((spec_l1PickInt.f s0_0 bt60017.2.1 bt60017.2.2 (([0,9,10]:List Int))).bind fun bt60035=>(if bt60002.2.2.2.2.2.2.1.length < 17592186044416 then (some (bt60002.1,bt60002.2.1,bt60002.2.2.1,bt60002.2.2.2.1,bt60002.2.2.2.2.1,bt60002.2.2.2.2.2.1,(bt60002.2.2.2.2.2.2.1 ++ [bt60035.1]),bt60002.2.2.2.2.2.2.2.1,bt60035.2.1,bt60035.2.2)) else (none))) else (some (bt60002.1,bt60002.2.1,bt60002.2.2.1,bt60002.2.2.2.1,bt60002.2.2.2.2.1,bt60002.2.2.2.2.2.1,bt60002.2.2.2.2.2.2.1,bt60002.2.2.2.2.2.2.2.1,bt60017.2.1,bt60017.2.2)))))))
def spec_l9Bent.T10:Bool × List (List Nat × List Nat):=(true,[([],[]),([0],[0]),([],[]),([],[]),([2,3],[2,3]),([4],[4]),([1,5,4],[1,5]),([0,1,2,3,4,5,6],[]),([7,6,6,0,1,2,3,4,5,6],[6,7])])
def spec_l9Bent.B10:List Nat:=[0,1,0,0,12,28,63,127,255]
theorem spec_l9Bent.tab10:rtab .any (opsOf Tryz.f60 10)=spec_l9Bent.T10:=by kernel_rfl
theorem spec_l9Bent.bits10:waitsOk spec_l9Bent.T10.2 spec_l9Bent.B10=true:=by kernel_rfl
theorem spec_l9Bent.calls (k:Nat) (g:Nat) (s0_0:List Int) (s0_1:Int) (s0_2:Int) (r1:Int) (r2:ByteArray) (r3:ByteArray) (r4:Int) (r5:ByteArray) (r6:List (S54)) (r7:List Int) (r8:Int) (r9:Int) (r10:Int) (w0 w:World) (hI:IsS77 w0 w g s0_0 s0_1 s0_2) (hB:Below w0.heap.size w0 w) (h:spec_l9Bent.f k s0_0 s0_1 s0_2=some (r1,r2,r3,r4,r5,r6,r7,r8,r9,r10)) :
  Calls Tryz.prog 60 #[.pointer (some ⟨g,0,none⟩)] w fun e w'=>∃ v5_ v6_:Value,e = .returned (.agg #[.int .i64 r1,.string r2,.string r3,.int .i64 r4,.string r5,v5_,v6_,.int .i64 r8])∧Kd.N k54 54 w' w.heap.size (fun k_=>(w.heap.size≤k_)∧some k_ ≠ (v6_:Value).ownBlock) v5_ r6∧Kd.R (Kd.int .i64) 3 w' w.heap.size (fun k_=>(w.heap.size≤k_)) v6_ r7∧IsS77 w0 w' g s0_0 r9 r10∧Below w0.heap.size w0 w'∧KeepBut w w' g none:=by
 have hu56:=Tryz.underlying56
 have HI0:=zk hI
 have HK:=zk (KeepBut.refl w g none)
 have HL:=zk hB.size
 clear hI
 have HW0:=zk hB.size
 have HB:=zk hB
 clear hB
 have H:=h
 unfold spec_l9Bent.f at H
 clear h
 obtain ⟨⟨t2,t3,t4,t5,t6,t7,t10,t13,t14,t15⟩,A2,H⟩:=zO H
 try dsimp only at H
 obtain ⟨⟨t17,t18,t19⟩,A3,H⟩:=zO H
 try dsimp only at H
 by_cases c4:t17=0
 ·rw [if_pos c4] at H
  have c4b0:=zbt c4
  have c4b1:=zqn c4
  clear c4
  obtain ⟨⟨t20,t21,t22⟩,A5,H⟩:=zO H
  try dsimp only at H
  simp only [Option.some.injEq,Prod.mk.injEq] at H
  obtain ⟨rfl,rfl,rfl,rfl,rfl,rfl,rfl,rfl,rfl,rfl⟩:=H
  go_enter Tryz.func60,Tryz.ntmps60
  go_wp2_with (first|((with_reducible refine gate_dst (N:=2) rfl ?_);refine zE (cs:=#[.int .i64 0,.string ⟨#[]⟩,.string ⟨#[]⟩,.int .i64 0,.string ⟨#[]⟩,.slice none 0 0,.slice none 0 0,.int .i64 0]) (t:=56) ?_;intro gb1 hg w6 hbox hb;replace HB:=yB HB hb;have BK1:=zk hbox;have GW1:=zk ((by rw [hg];exact (keep_size (w:=w) (g:=g) (row:=none) za16):w.heap.size≤gb1));have GE1:=zk ((Nat.le_trans HW0.out (by rw [hg];exact (keep_size (w:=w) (g:=g) (row:=none) za16):w.heap.size≤gb1):w0.heap.size≤gb1));have NB0_1:=zk (zm hg (IsS77.lt (show IsS77 w0 _ g s0_0 s0_1 s0_2 from za27)));have NB1_0:=zk (zM hg (IsS77.lt (show IsS77 w0 _ g s0_0 s0_1 s0_2 from za27)));replace HI0:=zk (IsS77.below za27 hb);replace HK:=yk HK hb;clear hb hbox hg)|((with_reducible refine gate_callee (f:=61) rfl ?_);refine zg (some 5) Tryz.func61 #[.pointer (some ⟨g,0,none⟩),.string ⟨#[88,89,90]⟩] rfl za11 ?_;(with_reducible refine (spec_l9Draw.calls k g s0_0 s0_1 s0_2 (⟨#[88,89,90]⟩:ByteArray) t2 t3 t4 t5 t6 t7 t10 t13 t14 t15 w0 _ za27 za22 A2.out).mono ?_);rintro e w7 ⟨v8,v11,rfl,ho0,ho1,hi,hb,hk⟩;refine ⟨_,rfl,?_⟩;have HO9:=zk (Kd.N_lower (Kd.N_mono (ok':=fun k_=>(w.heap.size≤k_)∧some k_ ≠ (v11:Value).ownBlock∧k_ ≠ gb1∧k_ ≠ g) ho0 (fun k_ hk_=>⟨(Nat.le_trans (keep_size (w:=w) (g:=g) (row:=none) za16) hk_.1),hk_.2,(zF BK1.out k_ hk_.1),(IsS77.fresh za27 k_ hk_.1)⟩)) (keep_size (w:=w) (g:=g) (row:=none) za16));have HO12:=zk (Kd.R_lower (Kd.R_newM (M:=fun k_=>(w.heap.size≤k_)) (Kd.R_mono (ok':=fun k_=>True) ho1 (fun _ hk_=>trivial)) (keep_size (w:=w) (g:=g) (row:=none) za16) (fun k_ h_=>h_)) (keep_size (w:=w) (g:=g) (row:=none) za16));replace HB:=zk hb;replace BK1:=yq hk BK1 NB1_0;replace HK:=yK HK hk;replace HI0:=zk hi;(try clear hb hk hi ho0 ho1))|((with_reducible refine gate_dst (N:=3) rfl ?_);refine zE (cs:=#[.int .i64 0,.string ⟨#[]⟩,.string ⟨#[]⟩,.int .i64 0,.string ⟨#[]⟩,.slice none 0 0,.slice none 0 0,.int .i64 0]) (t:=56) ?_;intro gb16 hg w8 hbox hb;replace HO9:=zk (Kd.N_below (Kd.N_elderB (za4 HO9.out) gb16 (Nat.le_of_eq hg.symm)) hb);replace HO12:=zk (Kd.R_below (za5 HO12.out) hb);replace HB:=yB HB hb;have BK16:=zk hbox;have GW16:=zk ((by rw [hg];exact (keep_size (w:=w) (g:=g) (row:=none) za16):w.heap.size≤gb16));have GE16:=zk ((Nat.le_trans HW0.out (by rw [hg];exact (keep_size (w:=w) (g:=g) (row:=none) za16):w.heap.size≤gb16):w0.heap.size≤gb16));have NB1_16:=yn hg BK1;have NB16_1:=yp hg BK1;have NB0_16:=zk (zm hg (IsS77.lt (show IsS77 w0 _ g s0_0 t14 t15 from za27)));have NB16_0:=zk (zM hg (IsS77.lt (show IsS77 w0 _ g s0_0 t14 t15 from za27)));replace HI0:=zk (IsS77.below za27 hb);replace BK1:=yb BK1 hb;replace HK:=yk HK hb;clear hb hbox hg;have hnb9:=NB16_1.out;have hnc9:=NB1_16.out;have hnb10:=NB16_0.out;have hnc10:=NB0_16.out;obtain ⟨hcz11_0,hcz11_1,hcz11_2,hcz11_3,hcz11_4,hcz11_5,hcz11_6,hcz11_7,hfz11_0,hfz11_1,hfz11_2,hfz11_3,hfz11_4,hfz11_5,hfz11_6,hfz11_7⟩:=blk8 BK16.out;obtain ⟨Ao12,co12,eo12⟩:=Kd.N_slice HO9.out;subst eo12;obtain ⟨Ao13,co13,eo13⟩:=Kd.R_slice HO12.out;subst eo13)|((with_reducible refine gate_callee (f:=42) rfl ?_);refine zg (some 7) Tryz.func42 #[.pointer (some ⟨g,0,none⟩),.int .i64 10] rfl za11 ?_;(with_reducible refine (spec_l1Below.calls g s0_0 t14 t15 10 t17 t18 t19 w0 _ za26 za38 A3.out).mono ?_);rintro e w14 ⟨rfl,hi,hb,hk⟩;refine ⟨_,rfl,?_⟩;replace BK1:=zk (KeepBut.blk hk (g':=gb1) (o:=.cells #[.int .i64 0,.string ⟨#[]⟩,.string ⟨#[]⟩,.int .i64 0,.string ⟨#[]⟩,.slice none 0 0,.slice none 0 0,.int .i64 0] 56 (0,0)) (zpw BK1.out) NB1_0.out (by simp));replace HO9:=zk (Kd.N_mono (Kd.N_keep (Kd.N_mono (ok:=fun k_=>((((w.heap.size≤k_))∧(some k_ ≠ (.slice Ao13 t10.length co13:Value).ownBlock∧(k_ ≠ gb1∧k_ ≠ g)))∧k_ ≠ gb16)) za48 (fun k_ hk_=>(⟨hk_,hk_.1.2.2.2⟩:_∧k_ ≠ g))) hk (fun _ h=>h.2)) (fun _ h=>h.1));replace HO12:=zk (Kd.R_mono (Kd.R_keep (IsS77.apart (show IsS77 w0 _ g s0_0 t14 t15 from za26) za53 (by decide)) hk (fun _ h=>h.2)) (fun _ h=>h.1));replace HK:=yK HK hk;replace HB:=zk hb;replace BK16:=zk (KeepBut.blk hk (g':=gb16) (o:=.cells #[.int .i64 t2,.string t3,.string t4,.int .i64 t5,.string t6,.slice Ao12 t7.length co12,.slice Ao13 t10.length co13,.int .i64 t13] 56 (0,0)) (zpu BK16.out) NB16_0.out (by simp));replace HI0:=zk hi;(try clear hb hk hi))|((with_reducible refine gate_callee (f:=42) rfl ?_);refine zg (some 11) Tryz.func42 #[.pointer (some ⟨g,0,none⟩),.int .i64 7] rfl za11 ?_;(with_reducible refine (spec_l1Below.calls g s0_0 t18 t19 7 t20 t21 t22 w0 _ za26 za38 A5.out).mono ?_);rintro e w15 ⟨rfl,hi,hb,hk⟩;refine ⟨_,rfl,?_⟩;replace BK1:=yq hk BK1 NB1_0;replace HO9:=zk (Kd.N_mono (Kd.N_keep (Kd.N_mono (ok:=fun k_=>((((w.heap.size≤k_))∧(some k_ ≠ (.slice Ao13 t10.length co13:Value).ownBlock∧(k_ ≠ gb1∧k_ ≠ g)))∧k_ ≠ gb16)) (za4 HO9.out) (fun k_ hk_=>(⟨hk_,hk_.1.2.2.2⟩:_∧k_ ≠ g))) hk (fun _ h=>h.2)) (fun _ h=>h.1));replace HO12:=zk (Kd.R_mono (Kd.R_keep (IsS77.apart (show IsS77 w0 _ g s0_0 t18 t19 from za26) (za5 HO12.out) (by decide)) hk (fun _ h=>h.2)) (fun _ h=>h.1));replace BK16:=yq hk BK16 NB16_0;replace HK:=yK HK hk;replace HB:=zk hb;replace HI0:=zk hi;(try clear hb hk hi);obtain ⟨hcz16_0,hcz16_1,hcz16_2,hcz16_3,hcz16_4,hcz16_5,hcz16_6,hcz16_7,hfz16_0,hfz16_1,hfz16_2,hfz16_3,hfz16_4,hfz16_5,hfz16_6,hfz16_7⟩:=blk8 BK16.out;have hnb17:=NB1_0.out;have hnc17:=NB0_1.out;obtain ⟨hcz18_0,hcz18_1,hcz18_2,hcz18_3,hcz18_4,hcz18_5,hcz18_6,hcz18_7,hfz18_0,hfz18_1,hfz18_2,hfz18_3,hfz18_4,hfz18_5,hfz18_6,hfz18_7⟩:=blk8 BK1.out))
  refine bodyPost_ret (results_cell_row rfl _ _ gb1 56 #[.int .i64 t20,.string t3,.string t4,.int .i64 t5,.string t6,.slice Ao12 t7.length co12,.slice Ao13 t10.length co13,.int .i64 t13] (0,0) _ rfl (zpw BK1.out) Tryz.underlying56 rfl (by kernel_rfl)) rfl ?_
  exact ⟨_,_,by (rfl),by (with_reducible repeat ((apply Kd.N_alloc)));exact Kd.N_mono (zfN (zfN (zfN (zfN (zfN (zfN (zfN (zfN (Kd.N_far (p:=⟨gb16,0,none⟩) (Kd.N_mono (Kd.N_mono HO9.out (fun k_ hk=>(⟨hk,hk.2⟩:_∧k_ ≠ gb16))) (fun k_ hk=>(⟨hk,hk.1.1.2.2.1⟩:_∧k_ ≠ gb1))) (fun _ hk=>hk.1.2) (.int .i64 t20)))))))))) (fun _ hk=>⟨hk.1.1.1.1,hk.1.1.1.2.1⟩),by (with_reducible repeat ((apply Kd.R_drewN)));exact Kd.R_mono (zfR (zfR (zfR (zfR (zfR (zfR (zfR (zfR (Kd.R_far (p:=⟨gb16,0,none⟩) (Kd.R_types (Kd.R_types HO12.out BK16.out (by decide)) BK1.out (by decide)) (fun _ hk=>hk.1.2) (.int .i64 t20)))))))))) (fun _ hk=>hk.1.1.1),za26,za38,za29⟩
 rw [if_neg c4] at H
 have c4b0:=zbn c4
 have c4b1:=zqt c4
 by_cases c19:t17=1
 ·rw [if_pos c19] at H
  have c19b0:=zbt c19
  have c19b1:=zqn c19
  clear c19
  obtain ⟨⟨t23,t24,t25⟩,A20,H⟩:=zO H
  try dsimp only at H
  simp only [Option.some.injEq,Prod.mk.injEq] at H
  obtain ⟨rfl,rfl,rfl,rfl,rfl,rfl,rfl,rfl,rfl,rfl⟩:=H
  go_enter Tryz.func60,Tryz.ntmps60
  go_wp2_with (first|((with_reducible refine gate_dst (N:=2) rfl ?_);refine zE (cs:=#[.int .i64 0,.string ⟨#[]⟩,.string ⟨#[]⟩,.int .i64 0,.string ⟨#[]⟩,.slice none 0 0,.slice none 0 0,.int .i64 0]) (t:=56) ?_;intro gb1 hg w21 hbox hb;replace HB:=yB HB hb;have BK1:=zk hbox;have GW1:=zk ((by rw [hg];exact (keep_size (w:=w) (g:=g) (row:=none) za16):w.heap.size≤gb1));have GE1:=zk ((Nat.le_trans HW0.out (by rw [hg];exact (keep_size (w:=w) (g:=g) (row:=none) za16):w.heap.size≤gb1):w0.heap.size≤gb1));have NB0_1:=zk (zm hg (IsS77.lt (show IsS77 w0 _ g s0_0 s0_1 s0_2 from za27)));have NB1_0:=zk (zM hg (IsS77.lt (show IsS77 w0 _ g s0_0 s0_1 s0_2 from za27)));replace HI0:=zk (IsS77.below za27 hb);replace HK:=yk HK hb;clear hb hbox hg)|((with_reducible refine gate_callee (f:=61) rfl ?_);refine zg (some 5) Tryz.func61 #[.pointer (some ⟨g,0,none⟩),.string ⟨#[88,89,90]⟩] rfl za11 ?_;(with_reducible refine (spec_l9Draw.calls k g s0_0 s0_1 s0_2 (⟨#[88,89,90]⟩:ByteArray) t2 t3 t4 t5 t6 t7 t10 t13 t14 t15 w0 _ za27 za22 A2.out).mono ?_);rintro e w22 ⟨v8,v11,rfl,ho0,ho1,hi,hb,hk⟩;refine ⟨_,rfl,?_⟩;have HO9:=zk (Kd.N_lower (Kd.N_mono (ok':=fun k_=>(w.heap.size≤k_)∧some k_ ≠ (v11:Value).ownBlock∧k_ ≠ gb1∧k_ ≠ g) ho0 (fun k_ hk_=>⟨(Nat.le_trans (keep_size (w:=w) (g:=g) (row:=none) za16) hk_.1),hk_.2,(zF BK1.out k_ hk_.1),(IsS77.fresh za27 k_ hk_.1)⟩)) (keep_size (w:=w) (g:=g) (row:=none) za16));have HO12:=zk (Kd.R_lower (Kd.R_newM (M:=fun k_=>(w.heap.size≤k_)) (Kd.R_mono (ok':=fun k_=>True) ho1 (fun _ hk_=>trivial)) (keep_size (w:=w) (g:=g) (row:=none) za16) (fun k_ h_=>h_)) (keep_size (w:=w) (g:=g) (row:=none) za16));replace HB:=zk hb;replace BK1:=yq hk BK1 NB1_0;replace HK:=yK HK hk;replace HI0:=zk hi;(try clear hb hk hi ho0 ho1))|((with_reducible refine gate_dst (N:=3) rfl ?_);refine zE (cs:=#[.int .i64 0,.string ⟨#[]⟩,.string ⟨#[]⟩,.int .i64 0,.string ⟨#[]⟩,.slice none 0 0,.slice none 0 0,.int .i64 0]) (t:=56) ?_;intro gb16 hg w23 hbox hb;replace HO9:=zk (Kd.N_below (Kd.N_elderB (za4 HO9.out) gb16 (Nat.le_of_eq hg.symm)) hb);replace HO12:=zk (Kd.R_below (za5 HO12.out) hb);replace HB:=yB HB hb;have BK16:=zk hbox;have GW16:=zk ((by rw [hg];exact (keep_size (w:=w) (g:=g) (row:=none) za16):w.heap.size≤gb16));have GE16:=zk ((Nat.le_trans HW0.out (by rw [hg];exact (keep_size (w:=w) (g:=g) (row:=none) za16):w.heap.size≤gb16):w0.heap.size≤gb16));have NB1_16:=yn hg BK1;have NB16_1:=yp hg BK1;have NB0_16:=zk (zm hg (IsS77.lt (show IsS77 w0 _ g s0_0 t14 t15 from za27)));have NB16_0:=zk (zM hg (IsS77.lt (show IsS77 w0 _ g s0_0 t14 t15 from za27)));replace HI0:=zk (IsS77.below za27 hb);replace BK1:=yb BK1 hb;replace HK:=yk HK hb;clear hb hbox hg;have hnb24:=NB16_1.out;have hnc24:=NB1_16.out;have hnb25:=NB16_0.out;have hnc25:=NB0_16.out;obtain ⟨hcz26_0,hcz26_1,hcz26_2,hcz26_3,hcz26_4,hcz26_5,hcz26_6,hcz26_7,hfz26_0,hfz26_1,hfz26_2,hfz26_3,hfz26_4,hfz26_5,hfz26_6,hfz26_7⟩:=blk8 BK16.out;obtain ⟨Ao27,co27,eo27⟩:=Kd.N_slice HO9.out;subst eo27;obtain ⟨Ao28,co28,eo28⟩:=Kd.R_slice HO12.out;subst eo28)|((with_reducible refine gate_callee (f:=42) rfl ?_);refine zg (some 7) Tryz.func42 #[.pointer (some ⟨g,0,none⟩),.int .i64 10] rfl za11 ?_;(with_reducible refine (spec_l1Below.calls g s0_0 t14 t15 10 t17 t18 t19 w0 _ za26 za38 A3.out).mono ?_);rintro e w29 ⟨rfl,hi,hb,hk⟩;refine ⟨_,rfl,?_⟩;replace BK1:=zk (KeepBut.blk hk (g':=gb1) (o:=.cells #[.int .i64 0,.string ⟨#[]⟩,.string ⟨#[]⟩,.int .i64 0,.string ⟨#[]⟩,.slice none 0 0,.slice none 0 0,.int .i64 0] 56 (0,0)) (zpw BK1.out) NB1_0.out (by simp));replace HO9:=zk (Kd.N_mono (Kd.N_keep (Kd.N_mono (ok:=fun k_=>((((w.heap.size≤k_))∧(some k_ ≠ (.slice Ao28 t10.length co28:Value).ownBlock∧(k_ ≠ gb1∧k_ ≠ g)))∧k_ ≠ gb16)) za48 (fun k_ hk_=>(⟨hk_,hk_.1.2.2.2⟩:_∧k_ ≠ g))) hk (fun _ h=>h.2)) (fun _ h=>h.1));replace HO12:=zk (Kd.R_mono (Kd.R_keep (IsS77.apart (show IsS77 w0 _ g s0_0 t14 t15 from za26) za53 (by decide)) hk (fun _ h=>h.2)) (fun _ h=>h.1));replace HK:=yK HK hk;replace HB:=zk hb;replace BK16:=zk (KeepBut.blk hk (g':=gb16) (o:=.cells #[.int .i64 t2,.string t3,.string t4,.int .i64 t5,.string t6,.slice Ao27 t7.length co27,.slice Ao28 t10.length co28,.int .i64 t13] 56 (0,0)) (zpu BK16.out) NB16_0.out (by simp));replace HI0:=zk hi;(try clear hb hk hi))|((with_reducible refine gate_callee (f:=86) rfl ?_);refine zg (some 16) Tryz.func86 #[.pointer (some ⟨g,0,none⟩)] rfl za11 ?_;(with_reducible refine (spec_l8Any.calls k g s0_0 t18 t19 t23 t24 t25 w0 _ za26 za38 A20.out).mono ?_);rintro e w30 ⟨rfl,hi,hb,hk⟩;refine ⟨_,rfl,?_⟩;replace BK1:=yq hk BK1 NB1_0;replace HO9:=zk (Kd.N_mono (Kd.N_keep (Kd.N_mono (ok:=fun k_=>((((w.heap.size≤k_))∧(some k_ ≠ (.slice Ao28 t10.length co28:Value).ownBlock∧(k_ ≠ gb1∧k_ ≠ g)))∧k_ ≠ gb16)) (za4 HO9.out) (fun k_ hk_=>(⟨hk_,hk_.1.2.2.2⟩:_∧k_ ≠ g))) hk (fun _ h=>h.2)) (fun _ h=>h.1));replace HO12:=zk (Kd.R_mono (Kd.R_keep (IsS77.apart (show IsS77 w0 _ g s0_0 t18 t19 from za26) (za5 HO12.out) (by decide)) hk (fun _ h=>h.2)) (fun _ h=>h.1));replace BK16:=yq hk BK16 NB16_0;replace HK:=yK HK hk;replace HB:=zk hb;replace HI0:=zk hi;(try clear hb hk hi);obtain ⟨hcz31_0,hcz31_1,hcz31_2,hcz31_3,hcz31_4,hcz31_5,hcz31_6,hcz31_7,hfz31_0,hfz31_1,hfz31_2,hfz31_3,hfz31_4,hfz31_5,hfz31_6,hfz31_7⟩:=blk8 BK16.out;have hnb32:=NB1_0.out;have hnc32:=NB0_1.out;obtain ⟨hcz33_0,hcz33_1,hcz33_2,hcz33_3,hcz33_4,hcz33_5,hcz33_6,hcz33_7,hfz33_0,hfz33_1,hfz33_2,hfz33_3,hfz33_4,hfz33_5,hfz33_6,hfz33_7⟩:=blk8 BK1.out))
  refine bodyPost_ret (results_cell_row rfl _ _ gb1 56 #[.int .i64 t2,.string t23,.string t4,.int .i64 t5,.string t6,.slice Ao27 t7.length co27,.slice Ao28 t10.length co28,.int .i64 t13] (0,0) _ rfl (zpw BK1.out) Tryz.underlying56 rfl (by kernel_rfl)) rfl ?_
  exact ⟨_,_,by (rfl),by (with_reducible repeat ((apply Kd.N_alloc)));exact Kd.N_mono (zfN (zfN (zfN (zfN (zfN (zfN (zfN (zfN (Kd.N_far (p:=⟨gb16,1,none⟩) (Kd.N_mono (Kd.N_mono HO9.out (fun k_ hk=>(⟨hk,hk.2⟩:_∧k_ ≠ gb16))) (fun k_ hk=>(⟨hk,hk.1.1.2.2.1⟩:_∧k_ ≠ gb1))) (fun _ hk=>hk.1.2) (.string t23)))))))))) (fun _ hk=>⟨hk.1.1.1.1,hk.1.1.1.2.1⟩),by (with_reducible repeat ((apply Kd.R_drewN)));exact Kd.R_mono (zfR (zfR (zfR (zfR (zfR (zfR (zfR (zfR (Kd.R_far (p:=⟨gb16,1,none⟩) (Kd.R_types (Kd.R_types HO12.out BK16.out (by decide)) BK1.out (by decide)) (fun _ hk=>hk.1.2) (.string t23)))))))))) (fun _ hk=>hk.1.1.1),za26,za38,za29⟩
 rw [if_neg c19] at H
 have c19b0:=zbn c19
 have c19b1:=zqt c19
 by_cases c34:t17=2
 ·rw [if_pos c34] at H
  have c34b0:=zbt c34
  have c34b1:=zqn c34
  clear c34
  obtain ⟨y60026,hy60026⟩:∃ y_:List Int,y_=(([99,100,(-99)]:List Int)):=⟨_,rfl⟩
  replace H:((spec_l1PickInt.f s0_0 t18 t19 y60026).bind fun bt29=>(some (t2,t3,t4,t5,t6,t7,t10,bt29.1,bt29.2.1,bt29.2.2)))=some (r1,r2,r3,r4,r5,r6,r7,r8,r9,r10):=by ((rw [hy60026];with_reducible exact H))
  have Ny26:=zk hy60026
  clear hy60026
  obtain ⟨⟨t29,t30,t31⟩,A35,H⟩:=zO H
  try dsimp only at H
  simp only [Option.some.injEq,Prod.mk.injEq] at H
  obtain ⟨rfl,rfl,rfl,rfl,rfl,rfl,rfl,rfl,rfl,rfl⟩:=H
  go_enter Tryz.func60,Tryz.ntmps60
  go_wp2_with (first|((with_reducible refine gate_dst (N:=2) rfl ?_);refine zE (cs:=#[.int .i64 0,.string ⟨#[]⟩,.string ⟨#[]⟩,.int .i64 0,.string ⟨#[]⟩,.slice none 0 0,.slice none 0 0,.int .i64 0]) (t:=56) ?_;intro gb1 hg w36 hbox hb;replace HB:=yB HB hb;have BK1:=zk hbox;have GW1:=zk ((by rw [hg];exact (keep_size (w:=w) (g:=g) (row:=none) za16):w.heap.size≤gb1));have GE1:=zk ((Nat.le_trans HW0.out (by rw [hg];exact (keep_size (w:=w) (g:=g) (row:=none) za16):w.heap.size≤gb1):w0.heap.size≤gb1));have NB0_1:=zk (zm hg (IsS77.lt (show IsS77 w0 _ g s0_0 s0_1 s0_2 from za27)));have NB1_0:=zk (zM hg (IsS77.lt (show IsS77 w0 _ g s0_0 s0_1 s0_2 from za27)));replace HI0:=zk (IsS77.below za27 hb);replace HK:=yk HK hb;clear hb hbox hg)|((with_reducible refine gate_callee (f:=61) rfl ?_);refine zg (some 5) Tryz.func61 #[.pointer (some ⟨g,0,none⟩),.string ⟨#[88,89,90]⟩] rfl za11 ?_;(with_reducible refine (spec_l9Draw.calls k g s0_0 s0_1 s0_2 (⟨#[88,89,90]⟩:ByteArray) t2 t3 t4 t5 t6 t7 t10 t13 t14 t15 w0 _ za27 za22 A2.out).mono ?_);rintro e w37 ⟨v8,v11,rfl,ho0,ho1,hi,hb,hk⟩;refine ⟨_,rfl,?_⟩;have HO9:=zk (Kd.N_lower (Kd.N_mono (ok':=fun k_=>(w.heap.size≤k_)∧some k_ ≠ (v11:Value).ownBlock∧k_ ≠ gb1∧k_ ≠ g) ho0 (fun k_ hk_=>⟨(Nat.le_trans (keep_size (w:=w) (g:=g) (row:=none) za16) hk_.1),hk_.2,(zF BK1.out k_ hk_.1),(IsS77.fresh za27 k_ hk_.1)⟩)) (keep_size (w:=w) (g:=g) (row:=none) za16));have HO12:=zk (Kd.R_lower (Kd.R_newM (M:=fun k_=>(w.heap.size≤k_)) (Kd.R_mono (ok':=fun k_=>True) ho1 (fun _ hk_=>trivial)) (keep_size (w:=w) (g:=g) (row:=none) za16) (fun k_ h_=>h_)) (keep_size (w:=w) (g:=g) (row:=none) za16));replace HB:=zk hb;replace BK1:=yq hk BK1 NB1_0;replace HK:=yK HK hk;replace HI0:=zk hi;(try clear hb hk hi ho0 ho1))|((with_reducible refine gate_dst (N:=3) rfl ?_);refine zE (cs:=#[.int .i64 0,.string ⟨#[]⟩,.string ⟨#[]⟩,.int .i64 0,.string ⟨#[]⟩,.slice none 0 0,.slice none 0 0,.int .i64 0]) (t:=56) ?_;intro gb16 hg w38 hbox hb;replace HO9:=zk (Kd.N_below (Kd.N_elderB (za4 HO9.out) gb16 (Nat.le_of_eq hg.symm)) hb);replace HO12:=zk (Kd.R_below (za5 HO12.out) hb);replace HB:=yB HB hb;have BK16:=zk hbox;have GW16:=zk ((by rw [hg];exact (keep_size (w:=w) (g:=g) (row:=none) za16):w.heap.size≤gb16));have GE16:=zk ((Nat.le_trans HW0.out (by rw [hg];exact (keep_size (w:=w) (g:=g) (row:=none) za16):w.heap.size≤gb16):w0.heap.size≤gb16));have NB1_16:=yn hg BK1;have NB16_1:=yp hg BK1;have NB0_16:=zk (zm hg (IsS77.lt (show IsS77 w0 _ g s0_0 t14 t15 from za27)));have NB16_0:=zk (zM hg (IsS77.lt (show IsS77 w0 _ g s0_0 t14 t15 from za27)));replace HI0:=zk (IsS77.below za27 hb);replace BK1:=yb BK1 hb;replace HK:=yk HK hb;clear hb hbox hg;have hnb39:=NB16_1.out;have hnc39:=NB1_16.out;have hnb40:=NB16_0.out;have hnc40:=NB0_16.out;obtain ⟨hcz41_0,hcz41_1,hcz41_2,hcz41_3,hcz41_4,hcz41_5,hcz41_6,hcz41_7,hfz41_0,hfz41_1,hfz41_2,hfz41_3,hfz41_4,hfz41_5,hfz41_6,hfz41_7⟩:=blk8 BK16.out;obtain ⟨Ao42,co42,eo42⟩:=Kd.N_slice HO9.out;subst eo42;obtain ⟨Ao43,co43,eo43⟩:=Kd.R_slice HO12.out;subst eo43)|((with_reducible refine gate_callee (f:=42) rfl ?_);refine zg (some 7) Tryz.func42 #[.pointer (some ⟨g,0,none⟩),.int .i64 10] rfl za11 ?_;(with_reducible refine (spec_l1Below.calls g s0_0 t14 t15 10 t17 t18 t19 w0 _ za26 za38 A3.out).mono ?_);rintro e w44 ⟨rfl,hi,hb,hk⟩;refine ⟨_,rfl,?_⟩;replace BK1:=zk (KeepBut.blk hk (g':=gb1) (o:=.cells #[.int .i64 0,.string ⟨#[]⟩,.string ⟨#[]⟩,.int .i64 0,.string ⟨#[]⟩,.slice none 0 0,.slice none 0 0,.int .i64 0] 56 (0,0)) (zpw BK1.out) NB1_0.out (by simp));replace HO9:=zk (Kd.N_mono (Kd.N_keep (Kd.N_mono (ok:=fun k_=>((((w.heap.size≤k_))∧(some k_ ≠ (.slice Ao43 t10.length co43:Value).ownBlock∧(k_ ≠ gb1∧k_ ≠ g)))∧k_ ≠ gb16)) za48 (fun k_ hk_=>(⟨hk_,hk_.1.2.2.2⟩:_∧k_ ≠ g))) hk (fun _ h=>h.2)) (fun _ h=>h.1));replace HO12:=zk (Kd.R_mono (Kd.R_keep (IsS77.apart (show IsS77 w0 _ g s0_0 t14 t15 from za26) za53 (by decide)) hk (fun _ h=>h.2)) (fun _ h=>h.1));replace HK:=yK HK hk;replace HB:=zk hb;replace BK16:=zk (KeepBut.blk hk (g':=gb16) (o:=.cells #[.int .i64 t2,.string t3,.string t4,.int .i64 t5,.string t6,.slice Ao42 t7.length co42,.slice Ao43 t10.length co43,.int .i64 t13] 56 (0,0)) (zpu BK16.out) NB16_0.out (by simp));replace HI0:=zk hi;(try clear hb hk hi))|((with_reducible refine gate_dst (N:=21) rfl ?_);refine Kd.R_lit (Kd.int .i64) _ 3 ?hg (N:=21) ?hd (xs:=([99,100,(-99)]:List Int)) (inner:=[.int .i64 99,.int .i64 100,.int .i64 (-99)]) (ok:=fun _=>True) (okp:=fun _=>True) ?hr ?hp (fun _ hk=>hk) trivial (Below.refl _ _) (Nat.le_refl _) (by simp) ?_;(case hd=>rfl);(case hg=>rfl);(case hr=>((go_simp;done)));(case hp=>exact (Reps.one (show Kd.M (Kd.int .i64) _ _ _ 99 [.int .i64 99] from rfl) (Reps.one (show Kd.M (Kd.int .i64) _ _ _ 100 [.int .i64 100] from rfl) (Reps.one (show Kd.M (Kd.int .i64) _ _ _ (-99) [.int .i64 (-99)] from rfl) (Reps.none _ _)))));intro v27 w45 ho46 hb hg_ hnew_;clear hg_ hnew_;((rw [← Ny26.out] at ho46));replace HO9:=zk (Kd.N_elder' (za4 HO9.out) (Kd.R_base ho46) hb);have HO28:=zk (Kd.R_lower (Kd.R_new' (Kd.R_newM (M:=fun k_=>(w.heap.size≤k_)) ho46 (keep_size (w:=w) (g:=g) (row:=none) za29) (fun k_ h_=>h_)) (Kd.R_lt (za5 HO12.out))) (keep_size (w:=w) (g:=g) (row:=none) za29));replace BK1:=yb BK1 hb;replace BK16:=yb BK16 hb;replace HB:=zk (below_step za38 hb);replace HO12:=zk (Kd.R_elder' (za5 HO12.out) (Kd.R_base ho46) hb);replace HI0:=zk (IsS77.below za26 hb);replace HK:=yk HK hb;clear hb ho46;obtain ⟨Ao47,co47,eo47⟩:=Kd.R_slice HO28.out;subst eo47)|((with_reducible refine gate_callee (f:=44) rfl ?_);refine zg (some 22) Tryz.func44 #[.pointer (some ⟨g,0,none⟩),.slice Ao47 y60026.length co47] rfl za11 ?_;(with_reducible refine (spec_l1PickInt.calls g s0_0 t18 t19 _ _ y60026 t29 t30 t31 w0 _ za26 za38 ?side3 ?side4 ?side5 A35.out).mono ?_);(case side3=>repeat ((exact (Kd.R_reads' HO28.out).2.2)));(case side4=>exact (Kd.R_reads' HO28.out).2.1);(case side5=>exact far_slice (IsS77.own_ne HI0.out HO28.out (by decide)));rintro e w48 ⟨rfl,hi,hb,hk⟩;refine ⟨_,rfl,?_⟩;replace BK1:=yq hk BK1 NB1_0;replace HO9:=zk (Kd.N_mono (Kd.N_keep (Kd.N_mono (ok:=fun k_=>(((((w.heap.size≤k_))∧(some k_ ≠ (.slice Ao43 t10.length co43:Value).ownBlock∧(k_ ≠ gb1∧k_ ≠ g)))∧k_ ≠ gb16)∧some k_ ≠ (.slice Ao47 y60026.length co47:Value).ownBlock)) (za4 HO9.out) (fun k_ hk_=>(⟨hk_,hk_.1.1.2.2.2⟩:_∧k_ ≠ g))) hk (fun _ h=>h.2)) (fun _ h=>h.1));replace HO12:=zk (Kd.R_mono (Kd.R_keep (IsS77.apart (show IsS77 w0 _ g s0_0 t18 t19 from za26) (za5 HO12.out) (by decide)) hk (fun _ h=>h.2)) (fun _ h=>h.1));replace BK16:=yq hk BK16 NB16_0;replace HO28:=zk (Kd.R_mono (Kd.R_keep (IsS77.apart (show IsS77 w0 _ g s0_0 t18 t19 from za26) (za5 HO28.out) (by decide)) hk (fun _ h=>h.2)) (fun _ h=>h.1));replace HK:=yK HK hk;replace HB:=zk hb;replace HI0:=zk hi;(try clear hb hk hi);obtain ⟨hcz49_0,hcz49_1,hcz49_2,hcz49_3,hcz49_4,hcz49_5,hcz49_6,hcz49_7,hfz49_0,hfz49_1,hfz49_2,hfz49_3,hfz49_4,hfz49_5,hfz49_6,hfz49_7⟩:=blk8 BK16.out;have hnb50:=NB1_0.out;have hnc50:=NB0_1.out;obtain ⟨hcz51_0,hcz51_1,hcz51_2,hcz51_3,hcz51_4,hcz51_5,hcz51_6,hcz51_7,hfz51_0,hfz51_1,hfz51_2,hfz51_3,hfz51_4,hfz51_5,hfz51_6,hfz51_7⟩:=blk8 BK1.out))
  refine bodyPost_ret (results_cell_row rfl _ _ gb1 56 #[.int .i64 t2,.string t3,.string t4,.int .i64 t5,.string t6,.slice Ao42 t7.length co42,.slice Ao43 t10.length co43,.int .i64 t29] (0,0) _ rfl (zpw BK1.out) Tryz.underlying56 rfl (by kernel_rfl)) rfl ?_
  exact ⟨_,_,by (rfl),by (with_reducible repeat ((apply Kd.N_alloc)));exact Kd.N_mono (zfN (zfN (zfN (zfN (zfN (zfN (zfN (zfN (Kd.N_far (p:=⟨gb16,7,none⟩) (Kd.N_mono (Kd.N_mono HO9.out (fun k_ hk=>(⟨hk,hk.1.2⟩:_∧k_ ≠ gb16))) (fun k_ hk=>(⟨hk,hk.1.1.1.2.2.1⟩:_∧k_ ≠ gb1))) (fun _ hk=>hk.1.2) (.int .i64 t29)))))))))) (fun _ hk=>⟨hk.1.1.1.1.1,hk.1.1.1.1.2.1⟩),by (with_reducible repeat ((apply Kd.R_drewN)));exact Kd.R_mono (zfR (zfR (zfR (zfR (zfR (zfR (zfR (zfR (Kd.R_far (p:=⟨gb16,7,none⟩) (Kd.R_types (Kd.R_types HO12.out BK16.out (by decide)) BK1.out (by decide)) (fun _ hk=>hk.1.2) (.int .i64 t29)))))))))) (fun _ hk=>hk.1.1.1.1),za26,za38,za29⟩
 rw [if_neg c34] at H
 have c34b0:=zbn c34
 have c34b1:=zqt c34
 by_cases c52:t17=3
 rw [if_pos c52] at H
 have c52b0:=zbt c52
 have c52b1:=zqn c52
 clear c52
 obtain ⟨y60032,hy60032⟩:∃ y_:List Int,y_=(([0,9,10]:List Int)):=⟨_,rfl⟩
 replace H:((spec_l1PickInt.f s0_0 t18 t19 y60032).bind fun bt35=>(if t10.length < 17592186044416 then (some (t2,t3,t4,t5,t6,t7,(t10 ++ [bt35.1]),t13,bt35.2.1,bt35.2.2)) else (none)))=some (r1,r2,r3,r4,r5,r6,r7,r8,r9,r10):=by ((rw [hy60032];with_reducible exact H))
 have Ny32:=zk hy60032
 clear hy60032
 obtain ⟨⟨t35,t36,t37⟩,A53,H⟩:=zO H
 try dsimp only at H
 by_cases c54:t10.length < 17592186044416
 ·rw [if_pos c54] at H
  have LMc54:=zk c54
  clear c54
  obtain ⟨y60038,hy60038⟩:∃ y_:List Int,y_=(t10 ++ [t35]):=⟨_,rfl⟩
  replace H:(some (t2,t3,t4,t5,t6,t7,y60038,t13,t36,t37))=some (r1,r2,r3,r4,r5,r6,r7,r8,r9,r10):=by ((rw [hy60038];with_reducible exact H))
  have Ny38:=zk hy60038
  clear hy60038
  simp only [Option.some.injEq,Prod.mk.injEq] at H
  obtain ⟨rfl,rfl,rfl,rfl,rfl,rfl,rfl,rfl,rfl,rfl⟩:=H
  go_enter Tryz.func60,Tryz.ntmps60
  try go_wp2_with (first|((with_reducible refine gate_dst (N:=2) rfl ?_);refine zE (cs:=#[.int .i64 0,.string ⟨#[]⟩,.string ⟨#[]⟩,.int .i64 0,.string ⟨#[]⟩,.slice none 0 0,.slice none 0 0,.int .i64 0]) (t:=56) ?_;intro gb1 hg w55 hbox hb;replace HB:=yB HB hb;have BK1:=zk hbox;have GW1:=zk ((by rw [hg];exact (keep_size (w:=w) (g:=g) (row:=none) za16):w.heap.size≤gb1));have GE1:=zk ((Nat.le_trans HW0.out (by rw [hg];exact (keep_size (w:=w) (g:=g) (row:=none) za16):w.heap.size≤gb1):w0.heap.size≤gb1));have NB0_1:=zk (zm hg (IsS77.lt (show IsS77 w0 _ g s0_0 s0_1 s0_2 from za27)));have NB1_0:=zk (zM hg (IsS77.lt (show IsS77 w0 _ g s0_0 s0_1 s0_2 from za27)));replace HI0:=zk (IsS77.below za27 hb);replace HK:=yk HK hb;clear hb hbox hg)|((with_reducible refine gate_callee (f:=61) rfl ?_);refine zg (some 5) Tryz.func61 #[.pointer (some ⟨g,0,none⟩),.string ⟨#[88,89,90]⟩] rfl za11 ?_;(with_reducible refine (spec_l9Draw.calls k g s0_0 s0_1 s0_2 (⟨#[88,89,90]⟩:ByteArray) t2 t3 t4 t5 t6 t7 t10 t13 t14 t15 w0 _ za27 za22 A2.out).mono ?_);rintro e w56 ⟨v8,v11,rfl,ho0,ho1,hi,hb,hk⟩;refine ⟨_,rfl,?_⟩;have HO9:=zk (Kd.N_lower (Kd.N_mono (ok':=fun k_=>(w.heap.size≤k_)∧some k_ ≠ (v11:Value).ownBlock∧k_ ≠ gb1∧k_ ≠ g) ho0 (fun k_ hk_=>⟨(Nat.le_trans (keep_size (w:=w) (g:=g) (row:=none) za16) hk_.1),hk_.2,(zF BK1.out k_ hk_.1),(IsS77.fresh za27 k_ hk_.1)⟩)) (keep_size (w:=w) (g:=g) (row:=none) za16));have HO12:=zk (Kd.R_lower (Kd.R_newM (M:=fun k_=>(w.heap.size≤k_)) (Kd.R_mono (ok':=fun k_=>True) ho1 (fun _ hk_=>trivial)) (keep_size (w:=w) (g:=g) (row:=none) za16) (fun k_ h_=>h_)) (keep_size (w:=w) (g:=g) (row:=none) za16));replace HB:=zk hb;replace BK1:=yq hk BK1 NB1_0;replace HK:=yK HK hk;replace HI0:=zk hi;(try clear hb hk hi ho0 ho1))|((with_reducible refine gate_dst (N:=3) rfl ?_);refine zE (cs:=#[.int .i64 0,.string ⟨#[]⟩,.string ⟨#[]⟩,.int .i64 0,.string ⟨#[]⟩,.slice none 0 0,.slice none 0 0,.int .i64 0]) (t:=56) ?_;intro gb16 hg w57 hbox hb;replace HO9:=zk (Kd.N_below (Kd.N_elderB (za4 HO9.out) gb16 (Nat.le_of_eq hg.symm)) hb);replace HO12:=zk (Kd.R_below (za5 HO12.out) hb);replace HB:=yB HB hb;have BK16:=zk hbox;have GW16:=zk ((by rw [hg];exact (keep_size (w:=w) (g:=g) (row:=none) za16):w.heap.size≤gb16));have GE16:=zk ((Nat.le_trans HW0.out (by rw [hg];exact (keep_size (w:=w) (g:=g) (row:=none) za16):w.heap.size≤gb16):w0.heap.size≤gb16));have NB1_16:=yn hg BK1;have NB16_1:=yp hg BK1;have NB0_16:=zk (zm hg (IsS77.lt (show IsS77 w0 _ g s0_0 t14 t15 from za27)));have NB16_0:=zk (zM hg (IsS77.lt (show IsS77 w0 _ g s0_0 t14 t15 from za27)));replace HI0:=zk (IsS77.below za27 hb);replace BK1:=yb BK1 hb;replace HK:=yk HK hb;clear hb hbox hg;have hnb58:=NB16_1.out;have hnc58:=NB1_16.out;have hnb59:=NB16_0.out;have hnc59:=NB0_16.out;obtain ⟨hcz60_0,hcz60_1,hcz60_2,hcz60_3,hcz60_4,hcz60_5,hcz60_6,hcz60_7,hfz60_0,hfz60_1,hfz60_2,hfz60_3,hfz60_4,hfz60_5,hfz60_6,hfz60_7⟩:=blk8 BK16.out;obtain ⟨Ao61,co61,eo61⟩:=Kd.N_slice HO9.out;subst eo61;obtain ⟨Ao62,co62,eo62⟩:=Kd.R_slice HO12.out;subst eo62)|((with_reducible refine gate_callee (f:=42) rfl ?_);refine zg (some 7) Tryz.func42 #[.pointer (some ⟨g,0,none⟩),.int .i64 10] rfl za11 ?_;(with_reducible refine (spec_l1Below.calls g s0_0 t14 t15 10 t17 t18 t19 w0 _ za26 za38 A3.out).mono ?_);rintro e w63 ⟨rfl,hi,hb,hk⟩;refine ⟨_,rfl,?_⟩;replace BK1:=zk (KeepBut.blk hk (g':=gb1) (o:=.cells #[.int .i64 0,.string ⟨#[]⟩,.string ⟨#[]⟩,.int .i64 0,.string ⟨#[]⟩,.slice none 0 0,.slice none 0 0,.int .i64 0] 56 (0,0)) (zpw BK1.out) NB1_0.out (by simp));replace HO9:=zk (Kd.N_mono (Kd.N_keep (Kd.N_mono (ok:=fun k_=>((((w.heap.size≤k_))∧(some k_ ≠ (.slice Ao62 t10.length co62:Value).ownBlock∧(k_ ≠ gb1∧k_ ≠ g)))∧k_ ≠ gb16)) za48 (fun k_ hk_=>(⟨hk_,hk_.1.2.2.2⟩:_∧k_ ≠ g))) hk (fun _ h=>h.2)) (fun _ h=>h.1));replace HO12:=zk (Kd.R_mono (Kd.R_keep (IsS77.apart (show IsS77 w0 _ g s0_0 t14 t15 from za26) za53 (by decide)) hk (fun _ h=>h.2)) (fun _ h=>h.1));replace HK:=yK HK hk;replace HB:=zk hb;replace BK16:=zk (KeepBut.blk hk (g':=gb16) (o:=.cells #[.int .i64 t2,.string t3,.string t4,.int .i64 t5,.string t6,.slice Ao61 t7.length co61,.slice Ao62 t10.length co62,.int .i64 t13] 56 (0,0)) (zpu BK16.out) NB16_0.out (by simp));replace HI0:=zk hi;(try clear hb hk hi)))
  replace HO9:=zk (Kd.N_drew HO9.out)
  replace HO12:=zk (Kd.R_drew HO12.out)
  replace BK1:=zk (blk_drew BK1.out)
  replace BK16:=zk (blk_drew BK16.out)
  replace HI0:=zk (IsS77.drew HI0.out)
  replace HK:=zk (keep_drew HK.out)
  replace HB:=zk (below_drew1 HB.out)
  refine start_ (n:=9) (S:=fun w'=>w'.cell? ⟨gb16,0,none⟩=some (.int .i64 t2)∧w'.cell? ⟨gb16,1,none⟩=some (.string t3)∧w'.cell? ⟨gb16,2,none⟩=some (.string t4)∧w'.cell? ⟨gb16,3,none⟩=some (.int .i64 t5)∧w'.cell? ⟨gb16,4,none⟩=some (.string t6)∧w'.cell? ⟨gb16,5,none⟩=some (.slice Ao61 t7.length co61)∧w'.cell? ⟨gb16,6,none⟩=some (.slice Ao62 t10.length co62)∧w'.cell? ⟨gb16,7,none⟩=some (.int .i64 t13)) (ds:=[8]) #[false,false,false,false,false,false,false,false,false] (by kernel_rfl) rfl rfl ⟨(blk_cell BK16.out 0).trans rfl,(blk_cell BK16.out 1).trans rfl,(blk_cell BK16.out 2).trans rfl,(blk_cell BK16.out 3).trans rfl,(blk_cell BK16.out 4).trans rfl,(blk_cell BK16.out 5).trans rfl,(blk_cell BK16.out 6).trans rfl,(blk_cell BK16.out 7).trans rfl⟩ (fun hHeld=>?_);refine with_tabW spec_l9Bent.tab10 spec_l9Bent.bits10 (fun HT_ HW_=>?_)
  generalize w63.drew=w64 at HO9 HO12 BK1 BK16 HI0 HK HB hHeld ⊢
  refine zy 0 (some 26) HT_.out ?_
  refine zy 2 (some 28) HT_.out ?_
  refine ztk 1 (some 27) HT_.out HW_.out hHeld ?_
  refine zon 3 (some 29) HT_.out (fun K hK=>?_)
  refine Kd.R_lit_step (Kd.int .i64) _ 3 ?hg (N:=29) ?hd (xs:=([0,9,10]:List Int)) (inner:=[.int .i64 0,.int .i64 9,.int .i64 10]) (ok:=fun _=>True) (okp:=fun _=>True) ?hr ?hp (fun _ hk=>hk) trivial (Below.refl _ _) (Nat.le_refl _) (by simp) ?_;(case hd=>rfl);(case hg=>rfl);(case hr=>((go_simp;done)));(case hp=>exact (Reps.one (show Kd.M (Kd.int .i64) _ _ _ 0 [.int .i64 0] from rfl) (Reps.one (show Kd.M (Kd.int .i64) _ _ _ 9 [.int .i64 9] from rfl) (Reps.one (show Kd.M (Kd.int .i64) _ _ _ 10 [.int .i64 10] from rfl) (Reps.none _ _)))))
  intro v33 w65 ho66 hb hg_ hnew_
  clear hg_ hnew_
  ((rw [← Ny32.out] at ho66))
  replace HO9:=zk (Kd.N_elder' (za4 HO9.out) (Kd.R_base ho66) hb)
  have HO34:=zk (Kd.R_lower (Kd.R_new' (Kd.R_newM (M:=fun k_=>(w.heap.size≤k_)) ho66 (keep_size (w:=w) (g:=g) (row:=none) za29) (fun k_ h_=>h_)) (Kd.R_lt (za5 HO12.out))) (keep_size (w:=w) (g:=g) (row:=none) za29))
  replace BK1:=yb BK1 hb
  replace BK16:=yb BK16 hb
  replace HB:=zk (below_step za38 hb)
  replace HO12:=zk (Kd.R_elder' (za5 HO12.out) (Kd.R_base ho66) hb)
  replace HI0:=zk (IsS77.below za26 hb)
  replace HK:=yk HK hb
  clear hb ho66
  obtain ⟨Ao67,co67,eo67⟩:=Kd.R_slice HO34.out
  ((subst eo67))
  refine hK.out _ _ ⟨(blk_cell BK16.out 0).trans rfl,(blk_cell BK16.out 1).trans rfl,(blk_cell BK16.out 2).trans rfl,(blk_cell BK16.out 3).trans rfl,(blk_cell BK16.out 4).trans rfl,(blk_cell BK16.out 5).trans rfl,(blk_cell BK16.out 6).trans rfl,(blk_cell BK16.out 7).trans rfl⟩ (fun hHeld=>?_)
  clear hK K
  refine zno (some 29) ?_
  refine zon 4 (some 30) HT_.out (fun K hK=>?_)
  refine goes_ Tryz.func44 (by kernel_rfl) rfl #[.pointer (some ⟨g,0,none⟩),.slice Ao67 y60032.length co67] (by rfl) rfl rfl za11 ?_
  with_reducible refine (spec_l1PickInt.calls g s0_0 t18 t19 _ _ y60032 t35 t36 t37 w0 _ za26 za38 ?side3 ?side4 ?side5 A53.out).mono ?_
  (case side3=>repeat ((exact (Kd.R_reads' HO34.out).2.2)))
  (case side4=>exact (Kd.R_reads' HO34.out).2.1)
  (case side5=>exact far_slice (IsS77.own_ne HI0.out HO34.out (by decide)))
  rintro e w68 ⟨rfl,hi,hb,hk⟩
  refine ⟨_,rfl,?_⟩
  replace BK1:=yq hk BK1 NB1_0
  replace HO9:=zk (Kd.N_mono (Kd.N_keep (Kd.N_mono (ok:=fun k_=>(((((w.heap.size≤k_))∧(some k_ ≠ (.slice Ao62 t10.length co62:Value).ownBlock∧(k_ ≠ gb1∧k_ ≠ g)))∧k_ ≠ gb16)∧some k_ ≠ (.slice Ao67 y60032.length co67:Value).ownBlock)) (za4 HO9.out) (fun k_ hk_=>(⟨hk_,hk_.1.1.2.2.2⟩:_∧k_ ≠ g))) hk (fun _ h=>h.2)) (fun _ h=>h.1))
  replace HO12:=zk (Kd.R_mono (Kd.R_keep (IsS77.apart (show IsS77 w0 _ g s0_0 t18 t19 from za26) (za5 HO12.out) (by decide)) hk (fun _ h=>h.2)) (fun _ h=>h.1))
  replace BK16:=yq hk BK16 NB16_0
  replace HO34:=zk (Kd.R_mono (Kd.R_keep (IsS77.apart (show IsS77 w0 _ g s0_0 t18 t19 from za26) (za5 HO34.out) (by decide)) hk (fun _ h=>h.2)) (fun _ h=>h.1))
  replace HK:=yK HK hk
  replace HB:=zk hb
  replace HI0:=zk hi
  (try clear hb)
  (try clear hb2)
  (try clear hk)
  (try clear hi)
  refine hK.out _ _ ⟨(blk_cell BK16.out 0).trans rfl,(blk_cell BK16.out 1).trans rfl,(blk_cell BK16.out 2).trans rfl,(blk_cell BK16.out 3).trans rfl,(blk_cell BK16.out 4).trans rfl,(blk_cell BK16.out 5).trans rfl,(blk_cell BK16.out 6).trans rfl,(blk_cell BK16.out 7).trans rfl⟩ (fun hHeld=>?_)
  clear hK K
  refine zno (some 30) ?_
  refine zon 5 (some 31) HT_.out (fun K hK=>?_)
  refine value_ (w1:=?_) (v:=?_) (by rfl) rfl ?_ ?_
  rotate_left 2
  ·go_simp
   constructor
   ·rfl
   ·rfl
  refine hK.out _ _ ⟨(blk_cell (blk_alloc BK16.out _) 0).trans rfl,(blk_cell (blk_alloc BK16.out _) 1).trans rfl,(blk_cell (blk_alloc BK16.out _) 2).trans rfl,(blk_cell (blk_alloc BK16.out _) 3).trans rfl,(blk_cell (blk_alloc BK16.out _) 4).trans rfl,(blk_cell (blk_alloc BK16.out _) 5).trans rfl,(blk_cell (blk_alloc BK16.out _) 6).trans rfl,(blk_cell (blk_alloc BK16.out _) 7).trans rfl⟩ (fun hHeld=>?_)
  clear hK K
  refine zno (some 31) ?_
  refine zon 6 (some 32) HT_.out (fun K hK=>?_)
  refine Kd.R_append_step (Kd.int .i64) w.heap.size (by rfl) (.tmp 27) (.tmp 31) 48 3 (.int .i64 0) 8 rfl Tryz.underlying48 info3 rfl (by decide) (by omega) (.slice Ao62 t10.length co62) t10 t35 [.int .i64 t35] (fun k_=>(w.heap.size≤k_)∧some k_ ≠ (.slice Ao67 y60032.length co67:Value).ownBlock) (fun _=>False) rfl rfl ?aP (fun _ hk=>hk.elim) ?aF ?aO (Below.refl _ _) ?aS ?aL ?_
  (case aP=>exact rfl)
  (case aF=>exact (fun k_ hk=>⟨(Nat.le_trans (keep_size (w:=w) (g:=g) (row:=none) za29) hk),Kd.fresh' (Kd.R_lt (za5 HO34.out)) k_ hk⟩))
  (case aO=>exact (by (with_reducible repeat ((apply Kd.R_drewN)));exact Kd.R_mono HO12.out (fun _ hk=>⟨hk.1.1,hk.2⟩)))
  (case aS=>exact (keep_size (w:=w) (g:=g) (row:=none) za29))
  (case aL=>have:=LMc54.out;omega)
  intro v39 w69 ho hb hg hat
  rw [← Ny38.out] at ho
  replace BK1:=zk (blk_grown (g:=gb1) (o:=.cells #[.int .i64 0,.string ⟨#[]⟩,.string ⟨#[]⟩,.int .i64 0,.string ⟨#[]⟩,.slice none 0 0,.slice none 0 0,.int .i64 0] 56 (0,0)) (za3 BK1.out) hg (Kd.R_ne HO12.out BK1.out (by decide)))
  replace HO9:=zk (Kd.N_afterv (ok:=(fun k_=>(w.heap.size≤k_)∧some k_ ≠ (.slice Ao67 y60032.length co67:Value).ownBlock∧k_ ≠ gb1∧k_ ≠ g∧k_ ≠ gb16)) (by (with_reducible repeat ((apply Kd.N_alloc)));exact Kd.N_mono HO9.out (fun _ hk=>⟨⟨hk.1.1.1,⟨hk.2,⟨hk.1.1.2.2.1,⟨hk.1.1.2.2.2,hk.1.2⟩⟩⟩⟩,hk.1.1.2.1⟩)) hg hat)
  replace BK16:=zk (blk_grown (g:=gb16) (o:=.cells #[.int .i64 t2,.string t3,.string t4,.int .i64 t5,.string t6,.slice Ao61 t7.length co61,.slice Ao62 t10.length co62,.int .i64 t13] 56 (0,0)) (za3 BK16.out) hg (Kd.R_ne HO12.out BK16.out (by decide)))
  replace HO34:=zk (Kd.R_after (ok:=(fun k_=>(w.heap.size≤k_))) (by (with_reducible repeat ((apply Kd.R_drewN)));exact Kd.R_mono HO34.out (fun _ hk=>⟨hk.1.1,hk.2⟩)) hg hat)
  replace HB:=zk (below_weaken za38 HL.out hb)
  replace HK:=zk (KeepBut.trans za29 (KeepBut.of_grown hg g) (Kd.R_base2 HO12.out))
  have HO40:=zk ho
  replace HI0:=zk (IsS77.grown za26 hg (IsS77.own_ne HI0.out HO12.out (by decide)))
  clear HO12
  clear ho hb hg hat
  obtain ⟨Ao70,co70,eo70⟩:=Kd.R_slice HO40.out
  ((subst eo70))
  refine hK.out _ _ ⟨(blk_cell BK16.out 0).trans rfl,(blk_cell BK16.out 1).trans rfl,(blk_cell BK16.out 2).trans rfl,(blk_cell BK16.out 3).trans rfl,(blk_cell BK16.out 4).trans rfl,(blk_cell BK16.out 5).trans rfl,(blk_cell BK16.out 6).trans rfl,(blk_cell BK16.out 7).trans rfl⟩ (fun hHeld=>?_)
  clear hK K
  refine zno (some 32) ?_
  refine zy 7 (some 33) HT_.out ?_
  refine last_ (i:=8) (N:=none) #[true,true,true,true,true,true,true,true,true] rfl rfl (one_of HT_.out (by kernel_rfl)) (by decide) (fun K hK=>?_)
  have hs71:w69.cell? ⟨gb16,6,none⟩=some (.slice Ao62 t10.length co62):=(blk_cell BK16.out 6).trans rfl
  have hfs71:=blk_frozen BK16.out 6
  have hns71_0:=NB1_16.out
  have hms71_0:=NB16_1.out
  refine skip_ (w1:=?_) (by rfl) rfl ?_ ?_
  rotate_left
  ·go_simp
   rfl
  refine hK.out _ _ ?_
  clear hK K
  refine done_ (done_of HT_.out (by kernel_rfl)) ?_
  obtain ⟨hcz72_0,hcz72_1,hcz72_2,hcz72_3,hcz72_4,hcz72_5,hcz72_6,hcz72_7,hfz72_0,hfz72_1,hfz72_2,hfz72_3,hfz72_4,hfz72_5,hfz72_6,hfz72_7⟩:=blk8 BK16.out
  have hnb73:=NB1_0.out
  have hnc73:=NB0_1.out
  obtain ⟨hcz74_0,hcz74_1,hcz74_2,hcz74_3,hcz74_4,hcz74_5,hcz74_6,hcz74_7,hfz74_0,hfz74_1,hfz74_2,hfz74_3,hfz74_4,hfz74_5,hfz74_6,hfz74_7⟩:=blk8 BK1.out
  try go_wp2
  refine bodyPost_ret (results_cell_row rfl _ _ gb1 56 #[.int .i64 t2,.string t3,.string t4,.int .i64 t5,.string t6,.slice Ao61 t7.length co61,.slice Ao70 y60038.length co70,.int .i64 t13] (0,0) _ rfl (zpw BK1.out) Tryz.underlying56 rfl (by kernel_rfl)) rfl ?_
  exact ⟨_,_,by (rfl),by (with_reducible repeat ((apply Kd.N_alloc)));exact Kd.N_mono (zfN (zfN (zfN (zfN (zfN (zfN (zfN (zfN (Kd.N_far (p:=⟨gb16,6,none⟩) (Kd.N_mono (Kd.N_mono HO9.out (fun k_ hk=>(⟨hk,hk.1.2.2.2.2⟩:_∧k_ ≠ gb16))) (fun k_ hk=>(⟨hk,hk.1.1.2.2.1⟩:_∧k_ ≠ gb1))) (fun _ hk=>hk.1.2) (.slice Ao70 y60038.length co70)))))))))) (fun _ hk=>⟨hk.1.1.1.1,hk.1.1.2⟩),by (with_reducible repeat ((apply Kd.R_drewN)));exact Kd.R_mono (zfR (zfR (zfR (zfR (zfR (zfR (zfR (zfR (Kd.R_far (p:=⟨gb16,6,none⟩) (Kd.R_types (Kd.R_types HO40.out BK16.out (by decide)) BK1.out (by decide)) (fun _ hk=>hk.1.2) (.slice Ao70 y60038.length co70)))))))))) (fun _ hk=>hk.1.1.1),za26,za38,za29⟩
 ·rw [if_neg c54] at H
  exact absurd H (by simp)
 ·rw [if_neg c52] at H
  have c52b0:=zbn c52
  have c52b1:=zqt c52
  simp only [Option.some.injEq,Prod.mk.injEq] at H
  obtain ⟨rfl,rfl,rfl,rfl,rfl,rfl,rfl,rfl,rfl,rfl⟩:=H
  go_enter Tryz.func60,Tryz.ntmps60
  go_wp2_with (first|((with_reducible refine gate_dst (N:=2) rfl ?_);refine zE (cs:=#[.int .i64 0,.string ⟨#[]⟩,.string ⟨#[]⟩,.int .i64 0,.string ⟨#[]⟩,.slice none 0 0,.slice none 0 0,.int .i64 0]) (t:=56) ?_;intro gb1 hg w75 hbox hb;replace HB:=yB HB hb;have BK1:=zk hbox;have GW1:=zk ((by rw [hg];exact (keep_size (w:=w) (g:=g) (row:=none) za16):w.heap.size≤gb1));have GE1:=zk ((Nat.le_trans HW0.out (by rw [hg];exact (keep_size (w:=w) (g:=g) (row:=none) za16):w.heap.size≤gb1):w0.heap.size≤gb1));have NB0_1:=zk (zm hg (IsS77.lt (show IsS77 w0 _ g s0_0 s0_1 s0_2 from za27)));have NB1_0:=zk (zM hg (IsS77.lt (show IsS77 w0 _ g s0_0 s0_1 s0_2 from za27)));replace HI0:=zk (IsS77.below za27 hb);replace HK:=yk HK hb;clear hb hbox hg)|((with_reducible refine gate_callee (f:=61) rfl ?_);refine zg (some 5) Tryz.func61 #[.pointer (some ⟨g,0,none⟩),.string ⟨#[88,89,90]⟩] rfl za11 ?_;(with_reducible refine (spec_l9Draw.calls k g s0_0 s0_1 s0_2 (⟨#[88,89,90]⟩:ByteArray) t2 t3 t4 t5 t6 t7 t10 t13 t14 t15 w0 _ za27 za22 A2.out).mono ?_);rintro e w76 ⟨v8,v11,rfl,ho0,ho1,hi,hb,hk⟩;refine ⟨_,rfl,?_⟩;have HO9:=zk (Kd.N_lower (Kd.N_mono (ok':=fun k_=>(w.heap.size≤k_)∧some k_ ≠ (v11:Value).ownBlock∧k_ ≠ gb1∧k_ ≠ g) ho0 (fun k_ hk_=>⟨(Nat.le_trans (keep_size (w:=w) (g:=g) (row:=none) za16) hk_.1),hk_.2,(zF BK1.out k_ hk_.1),(IsS77.fresh za27 k_ hk_.1)⟩)) (keep_size (w:=w) (g:=g) (row:=none) za16));have HO12:=zk (Kd.R_lower (Kd.R_newM (M:=fun k_=>(w.heap.size≤k_)) (Kd.R_mono (ok':=fun k_=>True) ho1 (fun _ hk_=>trivial)) (keep_size (w:=w) (g:=g) (row:=none) za16) (fun k_ h_=>h_)) (keep_size (w:=w) (g:=g) (row:=none) za16));replace HB:=zk hb;replace BK1:=yq hk BK1 NB1_0;replace HK:=yK HK hk;replace HI0:=zk hi;(try clear hb hk hi ho0 ho1))|((with_reducible refine gate_dst (N:=3) rfl ?_);refine zE (cs:=#[.int .i64 0,.string ⟨#[]⟩,.string ⟨#[]⟩,.int .i64 0,.string ⟨#[]⟩,.slice none 0 0,.slice none 0 0,.int .i64 0]) (t:=56) ?_;intro gb16 hg w77 hbox hb;replace HO9:=zk (Kd.N_below (Kd.N_elderB (za4 HO9.out) gb16 (Nat.le_of_eq hg.symm)) hb);replace HO12:=zk (Kd.R_below (za5 HO12.out) hb);replace HB:=yB HB hb;have BK16:=zk hbox;have GW16:=zk ((by rw [hg];exact (keep_size (w:=w) (g:=g) (row:=none) za16):w.heap.size≤gb16));have GE16:=zk ((Nat.le_trans HW0.out (by rw [hg];exact (keep_size (w:=w) (g:=g) (row:=none) za16):w.heap.size≤gb16):w0.heap.size≤gb16));have NB1_16:=yn hg BK1;have NB16_1:=yp hg BK1;have NB0_16:=zk (zm hg (IsS77.lt (show IsS77 w0 _ g s0_0 t14 t15 from za27)));have NB16_0:=zk (zM hg (IsS77.lt (show IsS77 w0 _ g s0_0 t14 t15 from za27)));replace HI0:=zk (IsS77.below za27 hb);replace BK1:=yb BK1 hb;replace HK:=yk HK hb;clear hb hbox hg;have hnb78:=NB16_1.out;have hnc78:=NB1_16.out;have hnb79:=NB16_0.out;have hnc79:=NB0_16.out;obtain ⟨hcz80_0,hcz80_1,hcz80_2,hcz80_3,hcz80_4,hcz80_5,hcz80_6,hcz80_7,hfz80_0,hfz80_1,hfz80_2,hfz80_3,hfz80_4,hfz80_5,hfz80_6,hfz80_7⟩:=blk8 BK16.out;obtain ⟨Ao81,co81,eo81⟩:=Kd.N_slice HO9.out;subst eo81;obtain ⟨Ao82,co82,eo82⟩:=Kd.R_slice HO12.out;subst eo82)|((with_reducible refine gate_callee (f:=42) rfl ?_);refine zg (some 7) Tryz.func42 #[.pointer (some ⟨g,0,none⟩),.int .i64 10] rfl za11 ?_;(with_reducible refine (spec_l1Below.calls g s0_0 t14 t15 10 t17 t18 t19 w0 _ za26 za38 A3.out).mono ?_);rintro e w83 ⟨rfl,hi,hb,hk⟩;refine ⟨_,rfl,?_⟩;replace BK1:=zk (KeepBut.blk hk (g':=gb1) (o:=.cells #[.int .i64 0,.string ⟨#[]⟩,.string ⟨#[]⟩,.int .i64 0,.string ⟨#[]⟩,.slice none 0 0,.slice none 0 0,.int .i64 0] 56 (0,0)) (zpw BK1.out) NB1_0.out (by simp));replace HO9:=zk (Kd.N_mono (Kd.N_keep (Kd.N_mono (ok:=fun k_=>((((w.heap.size≤k_))∧(some k_ ≠ (.slice Ao82 t10.length co82:Value).ownBlock∧(k_ ≠ gb1∧k_ ≠ g)))∧k_ ≠ gb16)) za48 (fun k_ hk_=>(⟨hk_,hk_.1.2.2.2⟩:_∧k_ ≠ g))) hk (fun _ h=>h.2)) (fun _ h=>h.1));replace HO12:=zk (Kd.R_mono (Kd.R_keep (IsS77.apart (show IsS77 w0 _ g s0_0 t14 t15 from za26) za53 (by decide)) hk (fun _ h=>h.2)) (fun _ h=>h.1));replace HK:=yK HK hk;replace HB:=zk hb;replace BK16:=zk (KeepBut.blk hk (g':=gb16) (o:=.cells #[.int .i64 t2,.string t3,.string t4,.int .i64 t5,.string t6,.slice Ao81 t7.length co81,.slice Ao82 t10.length co82,.int .i64 t13] 56 (0,0)) (zpu BK16.out) NB16_0.out (by simp));replace HI0:=zk hi;(try clear hb hk hi);obtain ⟨hcz84_0,hcz84_1,hcz84_2,hcz84_3,hcz84_4,hcz84_5,hcz84_6,hcz84_7,hfz84_0,hfz84_1,hfz84_2,hfz84_3,hfz84_4,hfz84_5,hfz84_6,hfz84_7⟩:=blk8 BK16.out;have hnb85:=NB1_0.out;have hnc85:=NB0_1.out;obtain ⟨hcz86_0,hcz86_1,hcz86_2,hcz86_3,hcz86_4,hcz86_5,hcz86_6,hcz86_7,hfz86_0,hfz86_1,hfz86_2,hfz86_3,hfz86_4,hfz86_5,hfz86_6,hfz86_7⟩:=blk8 BK1.out))
  refine bodyPost_ret (results_cell_row rfl _ _ gb1 56 #[.int .i64 t2,.string t3,.string t4,.int .i64 t5,.string t6,.slice Ao81 t7.length co81,.slice Ao82 t10.length co82,.int .i64 t13] (0,0) _ rfl (zpu BK1.out) Tryz.underlying56 rfl (by kernel_rfl)) rfl ?_
  exact ⟨_,_,by (rfl),by (with_reducible repeat ((apply Kd.N_alloc)));exact Kd.N_mono (zfN (zfN (zfN (zfN (zfN (zfN (zfN (zfN (Kd.N_mono HO9.out (fun k_ hk=>(⟨hk,hk.1.2.2.1⟩:_∧k_ ≠ gb1))))))))))) (fun _ hk=>⟨hk.1.1.1,hk.1.1.2.1⟩),by (with_reducible repeat ((apply Kd.R_drewN)));exact Kd.R_mono (zfR (zfR (zfR (zfR (zfR (zfR (zfR (zfR (Kd.R_types HO12.out BK1.out (by decide)))))))))) (fun _ hk=>hk.1.1),za26,za38,za29⟩
def spec_IsValidProblem.l0:Nat→Int→List (S56)→Option (Bool)
 | 0,_,_=>none
 | k+1,x3,x22002000=>if x3 < (x22002000.length:Int) then (if 0≤x3 then ((spec_IsValidConstraint.f k ((rd_T56 x22002000 x3).f0) ((rd_T56 x22002000 x3).f1) ((rd_T56 x22002000 x3).f2) ((rd_T56 x22002000 x3).f3.f0) ((rd_T56 x22002000 x3).f3.f1) ((rd_T56 x22002000 x3).f3.f2) ((rd_T56 x22002000 x3).f4) ((rd_T56 x22002000 x3).f5)).bind fun t22003=>(if t22003=true then (spec_IsValidProblem.l0 k (wrap64 (x3+1)) x22002000) else (some false))) else (none)) else (some (decide ((x22002000.length:Int)≤6)))
def spec_IsValidProblem.f (k:Nat) (l0_0:List (S56)):Option (Bool):=spec_IsValidProblem.l0 k 0 l0_0
theorem spec_IsValidProblem.calls (k:Nat) (A0_0:Option Addr) (c0_0:Nat) (l0_0:List (S56)) (r:Bool) (w:World) (hr0_0:Kd.C k56 w A0_0 l0_0.length l0_0) (hc0_0:l0_0.length≤c0_0) (h:spec_IsValidProblem.f k l0_0=some r) :
   Calls Tryz.prog 22 #[.agg #[.slice A0_0 l0_0.length c0_0]] w fun e w'=>e = .returned (.bool r)∧Below w.heap.size w w':=by
 have hu26:=Tryz.underlying26
 have hu56:=Tryz.underlying56
 have HR0_0:=zk hr0_0
 have HC0_0:=zk hc0_0
 clear hr0_0 hc0_0
 have HB:=zk (Below.refl w.heap.size w)
 have H:=h
 unfold spec_IsValidProblem.f at H
 clear h
 have H':=zk H
 clear H
 go_enter Tryz.func22,Tryz.ntmps22
 go_wp2_with ((((with_reducible refine gate_dst (N:=1) rfl ?_);refine zE (cs:=#[.slice A0_0 l0_0.length c0_0]) (t:=26) ?_;intro gb1 hg w2 hbox hb;have BK1:=zk hbox;have GW1:=zk (zs (w:=w) hg za8);have GE1:=GW1;replace HB:=yB HB hb;clear hb hbox hg)))
 try simp only [Act.put,zt,zv,zu]
 go_loopg [3] k (fun kq v3 w'=>∃ (x3_1:Int),v3 = .int .i64 x3_1∧Aside0 (spec_IsValidProblem.l0 kq x3_1 l0_0=some r)∧Aside0 (kq≤k)∧Aside0 (w'.heap[gb1]? = some (.cells #[(.slice A0_0 l0_0.length c0_0)] 26 (0,0)))∧Aside0 (Below w.heap.size w w'))
 case atStart=>exact ⟨(0),(by (rfl)),H',⟨Nat.le_refl _⟩,⟨za3 BK1.out⟩,⟨za8⟩⟩
 case round =>
  clear H'
  obtain ⟨x3_1,rfl,HA,HK1,BK1,HB⟩:=hrel
  cases gk with
  | zero=>exact absurd HA.out (by simp [spec_IsValidProblem.l0])
  | succ k1 =>
   have H:=HA.out
   clear HA
   simp only [spec_IsValidProblem.l0] at H
   by_cases c3:x3_1 < (l0_0.length:Int)
   rw [if_pos c3] at H
   have c3b0:=zdl c3
   clear c3
   by_cases c4:0≤x3_1
   rw [if_pos c4] at H
   have c4b0:=zdle c4
   clear c4
   obtain ⟨t3,A5,H⟩:=zO H
   try dsimp only at H
   by_cases c6:t3=true
   subst c6
   rw [if_pos rfl] at H
   try dsimp only at H
   have H':=zk H
   clear H
   have fin1_:=zk trivial
   rotate_left
   replace c6:=Bool.eq_false_iff.mpr c6
   subst c6
   rw [if_neg zff] at H
   try dsimp only at H
   obtain rfl:=zi H
   have fin0_:=zk trivial
   rotate_left
   · rw [if_neg c4] at H
     exact absurd H (by simp)
   · rw [if_neg c3] at H
     have c3b0:=zdnl c3
     clear c3
     obtain rfl:=zi H
     obtain ⟨hcz11_0,hfz11_0⟩:=blk1 BK1.out
     go_wp2
     go_ret
     exact ⟨by (rfl),za8⟩
   all_goals
    obtain ⟨hcz9_0,hfz9_0⟩:=blk1 BK1.out
    have p22002:0≤(x3_1:Int):=of_decide_eq_true za25
    have q22002:x3_1 < (l0_0.length:Int):=of_decide_eq_true za25
    obtain ⟨ad22002,A22002_5,c22002_5,A22002_6,c22002_6,e22002,hx22002_0,hx22002_1,hx22002_2,hx22002_3,hx22002_4,hx22002_5,hx22002_6,hx22002_7,hl22002_5,hi22002_5,hl22002_6,hi22002_6⟩:=at_T56 HR0_0.out x3_1 p22002 q22002
    cases e22002
    replace hx22002_0:=zx HB.out hx22002_0
    replace hx22002_1:=zx HB.out hx22002_1
    replace hx22002_2:=zx HB.out hx22002_2
    replace hx22002_3:=zx HB.out hx22002_3
    replace hx22002_4:=zx HB.out hx22002_4
    replace hx22002_5:=zx HB.out hx22002_5
    replace hx22002_6:=zx HB.out hx22002_6
    replace hx22002_7:=zx HB.out hx22002_7
    have HR22002_5:=zk hi22002_5
    have HC22002_5:=zk hl22002_5
    clear hi22002_5 hl22002_5
    have HR22002_6:=zk hi22002_6
    have HC22002_6:=zk hl22002_6
    clear hi22002_6 hl22002_6
    replace p22002:=eq_true p22002
    replace q22002:=eq_true q22002
    go_wp2_with (((with_reducible refine gate_callee (f:=50) rfl ?_);refine zg (some 16) Tryz.func50 #[.agg #[.int .i64 ((rd_T56 l0_0 x3_1).f0),.string ((rd_T56 l0_0 x3_1).f1),.string ((rd_T56 l0_0 x3_1).f2),.int .i64 ((rd_T56 l0_0 x3_1).f3.f0),.string ((rd_T56 l0_0 x3_1).f3.f1),.slice A22002_5 ((rd_T56 l0_0 x3_1).f3.f2).length c22002_5,.slice A22002_6 ((rd_T56 l0_0 x3_1).f4).length c22002_6,.int .i64 ((rd_T56 l0_0 x3_1).f5)]] rfl za11 ?_;(with_reducible refine (spec_IsValidConstraint.calls k1 ((rd_T56 l0_0 x3_1).f0) ((rd_T56 l0_0 x3_1).f1) ((rd_T56 l0_0 x3_1).f2) ((rd_T56 l0_0 x3_1).f3.f0) ((rd_T56 l0_0 x3_1).f3.f1) _ _ ((rd_T56 l0_0 x3_1).f3.f2) _ _ ((rd_T56 l0_0 x3_1).f4) ((rd_T56 l0_0 x3_1).f5) _ _ ?side1 ?side2 ?side3 ?side4 A5.out).mono ?_);(case side1=>repeat ((exact (Kd.C_below HR22002_5.out HB.out))));(case side2=>exact HC22002_5.out);(case side3=>repeat ((exact (Kd.C_below HR22002_6.out HB.out))));(case side4=>exact HC22002_6.out);rintro e w10 ⟨rfl,hb⟩;refine ⟨_,rfl,?_⟩;replace BK1:=yb BK1 hb;replace HB:=yB HB hb;(try clear hb)))
    first
    | (
      clear fin0_
      go_ret
      exact ⟨za24,za9⟩)
    | (
      clear fin1_
      go_roundg k1
      case measure=>have:=HK1.out;omega
      case rel=>exact ⟨(wrap64 (x3_1+1)),(by (rfl)),H',⟨za43⟩,⟨za3 BK1.out⟩,⟨za8⟩⟩)
def spec_VarsOfProblem.l0:Nat→ByteArray→Int→List (S56)→Option (ByteArray)
 | 0,_,_,_=>none
 | k+1,x3,x4,x26002000=>if x4 < (x26002000.length:Int) then ((spec_IsValidProblem.f k x26002000).bind fun t26002=>(if t26002=true then (if 0≤x4 then ((spec_VarsOfConstraint.f k ((rd_T56 x26002000 x4).f0) ((rd_T56 x26002000 x4).f1) ((rd_T56 x26002000 x4).f2) ((rd_T56 x26002000 x4).f3.f0) ((rd_T56 x26002000 x4).f3.f1) ((rd_T56 x26002000 x4).f3.f2) ((rd_T56 x26002000 x4).f4) ((rd_T56 x26002000 x4).f5)).bind fun t26004=>(if x3.size+t26004.size≤9223372036854775807 then (spec_VarsOfProblem.l0 k (x3 ++ t26004) (wrap64 (x4+1)) x26002000) else (none))) else (none)) else ((spec_VarsOf.f k x3).bind fun t26005=>(some t26005)))) else ((spec_VarsOf.f k x3).bind fun t26006=>(some t26006))
def spec_VarsOfProblem.f (k:Nat) (l0_0:List (S56)):Option (ByteArray):=spec_VarsOfProblem.l0 k (⟨#[]⟩:ByteArray) 0 l0_0
theorem spec_VarsOfProblem.calls (k:Nat) (A0_0:Option Addr) (c0_0:Nat) (l0_0:List (S56)) (r:ByteArray) (w:World) (hr0_0:Kd.C k56 w A0_0 l0_0.length l0_0) (hc0_0:l0_0.length≤c0_0) (h:spec_VarsOfProblem.f k l0_0=some r) :
   Calls Tryz.prog 26 #[.agg #[.slice A0_0 l0_0.length c0_0]] w fun e w'=>e = .returned (.string r)∧Below w.heap.size w w':=by
 have hu26:=Tryz.underlying26
 have hu56:=Tryz.underlying56
 have HR0_0:=zk hr0_0
 have HC0_0:=zk hc0_0
 clear hr0_0 hc0_0
 have HB:=zk (Below.refl w.heap.size w)
 have H:=h
 unfold spec_VarsOfProblem.f at H
 clear h
 have H':=zk H
 clear H
 go_enter Tryz.func26,Tryz.ntmps26
 go_wp2_with ((((with_reducible refine gate_dst (N:=1) rfl ?_);refine zE (cs:=#[.slice A0_0 l0_0.length c0_0]) (t:=26) ?_;intro gb1 hg w2 hbox hb;have BK1:=zk hbox;have GW1:=zk (zs (w:=w) hg za8);have GE1:=GW1;replace HB:=yB HB hb;clear hb hbox hg)))
 try simp only [Act.put,zt,zv,zu]
 go_loopg [3,4] k (fun kq v3 v4 w'=>∃ (x3_1:ByteArray) (x4_1:Int),v3 = .string x3_1∧v4 = .int .i64 x4_1∧Aside0 (spec_VarsOfProblem.l0 kq x3_1 x4_1 l0_0=some r)∧Aside0 (kq≤k)∧Aside0 (w'.heap[gb1]? = some (.cells #[(.slice A0_0 l0_0.length c0_0)] 26 (0,0)))∧Aside0 (Below w.heap.size w w'))
 case atStart=>exact ⟨((⟨#[]⟩:ByteArray)),(0),(by (rfl)),(by (rfl)),H',⟨Nat.le_refl _⟩,⟨za3 BK1.out⟩,⟨za8⟩⟩
 case round =>
  clear H'
  obtain ⟨x3_1,x4_1,rfl,rfl,HA,HK1,BK1,HB⟩:=hrel
  cases gk with
  | zero=>exact absurd HA.out (by simp [spec_VarsOfProblem.l0])
  | succ k1 =>
   have H:=HA.out
   clear HA
   simp only [spec_VarsOfProblem.l0] at H
   by_cases c3:x4_1 < (l0_0.length:Int)
   rw [if_pos c3] at H
   have c3b0:=zdl c3
   clear c3
   obtain ⟨t2,A4,H⟩:=zO H
   try dsimp only at H
   by_cases c5:t2=true
   subst c5
   rw [if_pos rfl] at H
   try dsimp only at H
   by_cases c6:0≤x4_1
   rw [if_pos c6] at H
   have c6b0:=zdle c6
   clear c6
   obtain ⟨t4,A7,H⟩:=zO H
   try dsimp only at H
   by_cases c8:x3_1.size+t4.size≤9223372036854775807
   rw [if_pos c8] at H
   have c8z:=c8
   try simp at c8z
   try replace c8z:=eq_false (Nat.not_lt.2 c8z)
   have c8b0:=eq_true c8
   have c8b1:=zdle c8
   try have c8b2:(9223372036854775807 < x3_1.size+t4.size)=False:=eq_false (Nat.not_lt.2 c8)
   have H':=zk H
   clear H
   have fin0_:=zk trivial
   rotate_left
   · rw [if_neg c8] at H
     exact absurd H (by simp)
   · rw [if_neg c6] at H
     exact absurd H (by simp)
   · replace c5:=Bool.eq_false_iff.mpr c5
     subst c5
     rw [if_neg zff] at H
     try dsimp only at H
     obtain ⟨t5,A13,H⟩:=zO H
     try dsimp only at H
     obtain rfl:=zi H
     obtain ⟨hcz14_0,hfz14_0⟩:=blk1 BK1.out
     go_wp2_with (first|(go_at_call 22;(with_reducible refine (spec_IsValidProblem.calls k1 _ _ l0_0 _ _ ?side1 ?side2 A4.out).mono ?_);(case side1=>repeat ((exact (Kd.C_below HR0_0.out HB.out))));(case side2=>exact HC0_0.out);rintro e w15 ⟨rfl,hb⟩;replace BK1:=yb BK1 hb;replace HB:=yB HB hb;(try clear hb))|((with_reducible refine gate_callee (f:=54) rfl ?_);refine zg (some 25) Tryz.func54 #[.string x3_1] rfl za11 ?_;(with_reducible refine (spec_VarsOf.calls k1 x3_1 t5 _ A13.out).mono ?_);rintro e w' ⟨rfl,⟨nd,rfl⟩⟩;refine ⟨_,rfl,?_⟩))
     go_ret
     exact ⟨by (rfl),za8⟩
   rw [if_neg c3] at H
   have c3b0:=zdnl c3
   clear c3
   obtain ⟨t6,A16,H⟩:=zO H
   try dsimp only at H
   obtain rfl:=zi H
   have fin1_:=zk trivial
   rotate_left
   all_goals
    obtain ⟨hcz9_0,hfz9_0⟩:=blk1 BK1.out
    go_wp2_with (first|(go_at_call 22;(with_reducible refine (spec_IsValidProblem.calls k1 _ _ l0_0 _ _ ?side1 ?side2 A4.out).mono ?_);(case side1=>repeat ((exact (Kd.C_below HR0_0.out HB.out))));(case side2=>exact HC0_0.out);rintro e w10 ⟨rfl,hb⟩;replace BK1:=yb BK1 hb;replace HB:=yB HB hb;(try clear hb);obtain ⟨hcz11_0,hfz11_0⟩:=blk1 BK1.out;have p26003:0≤(x4_1:Int):=of_decide_eq_true za25;have q26003:x4_1 < (l0_0.length:Int):=of_decide_eq_true za25;obtain ⟨ad26003,A26003_5,c26003_5,A26003_6,c26003_6,e26003,hx26003_0,hx26003_1,hx26003_2,hx26003_3,hx26003_4,hx26003_5,hx26003_6,hx26003_7,hl26003_5,hi26003_5,hl26003_6,hi26003_6⟩:=at_T56 HR0_0.out x4_1 p26003 q26003;cases e26003;replace hx26003_0:=zx HB.out hx26003_0;replace hx26003_1:=zx HB.out hx26003_1;replace hx26003_2:=zx HB.out hx26003_2;replace hx26003_3:=zx HB.out hx26003_3;replace hx26003_4:=zx HB.out hx26003_4;replace hx26003_5:=zx HB.out hx26003_5;replace hx26003_6:=zx HB.out hx26003_6;replace hx26003_7:=zx HB.out hx26003_7;have HR26003_5:=zk hi26003_5;have HC26003_5:=zk hl26003_5;clear hi26003_5 hl26003_5;have HR26003_6:=zk hi26003_6;have HC26003_6:=zk hl26003_6;clear hi26003_6 hl26003_6;replace p26003:=eq_true p26003;replace q26003:=eq_true q26003)|((with_reducible refine gate_callee (f:=53) rfl ?_);refine zg (some 22) Tryz.func53 #[.agg #[.int .i64 ((rd_T56 l0_0 x4_1).f0),.string ((rd_T56 l0_0 x4_1).f1),.string ((rd_T56 l0_0 x4_1).f2),.int .i64 ((rd_T56 l0_0 x4_1).f3.f0),.string ((rd_T56 l0_0 x4_1).f3.f1),.slice A26003_5 ((rd_T56 l0_0 x4_1).f3.f2).length c26003_5,.slice A26003_6 ((rd_T56 l0_0 x4_1).f4).length c26003_6,.int .i64 ((rd_T56 l0_0 x4_1).f5)]] rfl za11 ?_;(with_reducible refine (spec_VarsOfConstraint.calls k1 ((rd_T56 l0_0 x4_1).f0) ((rd_T56 l0_0 x4_1).f1) ((rd_T56 l0_0 x4_1).f2) ((rd_T56 l0_0 x4_1).f3.f0) ((rd_T56 l0_0 x4_1).f3.f1) _ _ ((rd_T56 l0_0 x4_1).f3.f2) _ _ ((rd_T56 l0_0 x4_1).f4) ((rd_T56 l0_0 x4_1).f5) t4 _ ?side1 ?side2 ?side3 ?side4 A7.out).mono ?_);(case side1=>repeat ((exact (Kd.C_below HR26003_5.out HB.out))));(case side2=>exact HC26003_5.out);(case side3=>repeat ((exact (Kd.C_below HR26003_6.out HB.out))));(case side4=>exact HC26003_6.out);rintro e w12 ⟨rfl,hb⟩;refine ⟨_,rfl,?_⟩;replace BK1:=yb BK1 hb;replace HB:=yB HB hb;(try clear hb))|((with_reducible refine gate_callee (f:=54) rfl ?_);refine zg (some 25) Tryz.func54 #[.string x3_1] rfl za11 ?_;(with_reducible refine (spec_VarsOf.calls k1 x3_1 t6 _ A16.out).mono ?_);rintro e w' ⟨rfl,⟨nd,rfl⟩⟩;refine ⟨_,rfl,?_⟩))
    first
    | (
      clear fin0_
      go_roundg k1
      case measure=>have:=HK1.out;omega
      case rel=>exact ⟨(x3_1 ++ t4),(wrap64 (x4_1+1)),za23,za23,H',⟨za43⟩,⟨za0 BK1.out⟩,⟨za9⟩⟩)
    | (
      clear fin1_
      go_ret
      exact ⟨by (rfl),za8⟩)
mutual
def spec_IsModel.l0:Nat→ByteArray→Int→List (S56)→ByteArray→ByteArray→ByteArray→Option (Bool)
 | 0,_,_,_,_,_,_=>none
 | k+1,x5,x6,x15002000,x15003000,x15003001,x15003002=>if x6 < 3 then (if 0≤x6 then ((spec_CountByte.f k x5 (bt (⟨#[88,89,90]⟩:ByteArray) x6)).bind fun t15004=>(if t15004=0 then ((spec_ValueOf.f x15003000 x15003001 x15003002 (bt (⟨#[88,89,90]⟩:ByteArray) x6)).bind fun t15005=>(if t15005.toList=([]:List UInt8) then (spec_IsModel.l0 k x5 (wrap64 (x6+1)) x15002000 x15003000 x15003001 x15003002) else (some false))) else (spec_IsModel.l0 k x5 (wrap64 (x6+1)) x15002000 x15003000 x15003001 x15003002))) else (none)) else (spec_IsModel.l1 k 0 x15002000 x15003000 x15003001 x15003002)
def spec_IsModel.l1:Nat→Int→List (S56)→ByteArray→ByteArray→ByteArray→Option (Bool)
 | 0,_,_,_,_,_=>none
 | k+1,x7,x15002000,x15003000,x15003001,x15003002=>if x7 < (x15002000.length:Int) then (if 0≤x7 then ((spec_HoldsFor.f k ((rd_T56 x15002000 x7).f0) ((rd_T56 x15002000 x7).f1) ((rd_T56 x15002000 x7).f2) ((rd_T56 x15002000 x7).f3.f0) ((rd_T56 x15002000 x7).f3.f1) ((rd_T56 x15002000 x7).f3.f2) ((rd_T56 x15002000 x7).f4) ((rd_T56 x15002000 x7).f5) x15003000 x15003001 x15003002).bind fun t15007=>(if t15007=true then (spec_IsModel.l1 k (wrap64 (x7+1)) x15002000 x15003000 x15003001 x15003002) else (some false))) else (none)) else ((spec_IsValidProblem.f k x15002000).bind fun t15008=>(if t15008=true then ((spec_IsValues.f k x15003000 x15003001 x15003002).bind fun t15009=>(some t15009)) else (some false)))
end
def spec_IsModel.f (k:Nat) (l0_0:List (S56)) (a1_0:ByteArray) (a1_1:ByteArray) (a1_2:ByteArray):Option (Bool):=(spec_VarsOfProblem.f k l0_0).bind fun t15003=>(spec_IsModel.l0 k t15003 0 l0_0 a1_0 a1_1 a1_2)
def spec_IsModel.T5:Bool × List (List Nat × List Nat):=(true,[([],[]),([],[]),([1],[1]),([0,2],[0,2]),([3],[3]),([4,3],[4]),([5],[5]),([5],[5]),([7,5],[5,7]),([6,8,5,5],[5,6,8]),([9,5],[5,9]),([5,10],[5,10])])
def spec_IsModel.B5:List Nat:=[0,0,2,7,15,31,63,63,191,511,1023,2047]
theorem spec_IsModel.tab5:rtab .any (opsOf Tryz.f15 5)=spec_IsModel.T5:=by kernel_rfl
theorem spec_IsModel.bits5:waitsOk spec_IsModel.T5.2 spec_IsModel.B5=true:=by kernel_rfl
def spec_IsModel.T10:Bool × List (List Nat × List Nat):=(true,[([],[]),([0],[0]),([],[]),([1,2],[1,2]),([3],[3]),([],[]),([4,5],[4,5]),([6],[6])])
def spec_IsModel.B10:List Nat:=[0,1,0,7,15,0,63,127]
theorem spec_IsModel.tab10:rtab .any (opsOf Tryz.f15 10)=spec_IsModel.T10:=by kernel_rfl
theorem spec_IsModel.bits10:waitsOk spec_IsModel.T10.2 spec_IsModel.B10=true:=by kernel_rfl
theorem spec_IsModel.calls (k:Nat) (A0_0:Option Addr) (c0_0:Nat) (l0_0:List (S56)) (a1_0:ByteArray) (a1_1:ByteArray) (a1_2:ByteArray) (r:Bool) (w:World) (hr0_0:Kd.C k56 w A0_0 l0_0.length l0_0) (hc0_0:l0_0.length≤c0_0) (h:spec_IsModel.f k l0_0 a1_0 a1_1 a1_2=some r) :
   Calls Tryz.prog 15 #[.agg #[.slice A0_0 l0_0.length c0_0],.agg #[.string a1_0,.string a1_1,.string a1_2]] w fun e w'=>e = .returned (.bool r)∧Below w.heap.size w w':=by
 have hu26:=Tryz.underlying26
 have hu32:=Tryz.underlying32
 have hu56:=Tryz.underlying56
 have HR0_0:=zk hr0_0
 have HC0_0:=zk hc0_0
 clear hr0_0 hc0_0
 have HB:=zk (Below.refl w.heap.size w)
 have H:=h
 unfold spec_IsModel.f at H
 clear h
 obtain ⟨t3,A3,H⟩:=zO H
 try dsimp only at H
 have H':=zk H
 clear H
 go_enter Tryz.func15,Tryz.ntmps15
 go_wp2_with (first|((with_reducible refine gate_dst (N:=2) rfl ?_);refine zE (cs:=#[.slice A0_0 l0_0.length c0_0]) (t:=26) ?_;intro gb1 hg w4 hbox hb;have BK1:=zk hbox;have GW1:=zk (zs (w:=w) hg za8);have GE1:=GW1;replace HB:=yB HB hb;clear hb hbox hg)|((with_reducible refine gate_dst (N:=3) rfl ?_);refine zE (cs:=#[.string a1_0,.string a1_1,.string a1_2]) (t:=32) ?_;intro gb2 hg w5 hbox hb;have BK2:=zk hbox;have GW2:=zk (zs (w:=w) hg za8);have GE2:=GW2;have NB1_2:=yn hg BK1;have NB2_1:=yp hg BK1;replace BK1:=yb BK1 hb;replace HB:=yB HB hb;clear hb hbox hg;have hnb6:=NB1_2.out;have hnc6:=NB2_1.out;obtain ⟨hcz7_0,hfz7_0⟩:=blk1 BK1.out)|((with_reducible refine gate_callee (f:=26) rfl ?_);refine zg (some 9) Tryz.func26 #[.agg #[.slice A0_0 l0_0.length c0_0]] rfl za11 ?_;(with_reducible refine (spec_VarsOfProblem.calls k _ _ l0_0 t3 _ ?side1 ?side2 A3.out).mono ?_);(case side1=>repeat ((exact (Kd.C_below HR0_0.out HB.out))));(case side2=>exact HC0_0.out);rintro e w8 ⟨rfl,hb⟩;refine ⟨_,rfl,?_⟩;replace BK1:=yb BK1 hb;replace BK2:=yb BK2 hb;replace HB:=yB HB hb;(try clear hb)))
 try simp only [Act.put,zt,zv,zu]
 go_loopg [6] k (fun kq v6 w'=>∃ (x6_1:Int),v6 = .int .i64 x6_1∧Aside0 (spec_IsModel.l0 kq t3 x6_1 l0_0 a1_0 a1_1 a1_2=some r)∧Aside0 (kq≤k)∧Aside0 (w'.heap[gb1]? = some (.cells #[(.slice A0_0 l0_0.length c0_0)] 26 (0,0)))∧Aside0 (w'.heap[gb2]? = some (.cells #[.string a1_0,.string a1_1,.string a1_2] 32 (0,0)))∧Aside0 (Below w.heap.size w w'))
 case atStart=>exact ⟨(0),(by (rfl)),H',⟨Nat.le_refl _⟩,⟨za3 BK1.out⟩,⟨za3 BK2.out⟩,⟨za8⟩⟩
 case round =>
  clear H'
  try clear hcz7_0
  try clear hfz7_0
  obtain ⟨x6_1,rfl,HA,HK1,BK1,BK2,HB⟩:=hrel
  cases gk with
  | zero=>exact absurd HA.out (by simp [spec_IsModel.l0])
  | succ k1 =>
   have H:=HA.out
   clear HA
   simp only [spec_IsModel.l0] at H
   by_cases c9:x6_1 < 3
   rw [if_pos c9] at H
   have c9b0:=zdl c9
   clear c9
   by_cases c10:0≤x6_1
   rw [if_pos c10] at H
   have c10b0:=zdle c10
   clear c10
   obtain ⟨t4,A12,H⟩:=zO H
   try dsimp only at H
   by_cases c13:t4=0
   rw [if_pos c13] at H
   have c13b0:=zbt c13
   have c13b1:=zqn c13
   clear c13
   obtain ⟨t5,A15,H⟩:=zO H
   try dsimp only at H
   by_cases c16:t5.toList=([]:List UInt8)
   rw [if_pos c16] at H
   have c16b0:=zbt c16
   have c16b1:=zqn c16
   clear c16
   have H':=zk H
   clear H
   have fin0_:=zk trivial
   rotate_left
   rw [if_neg c16] at H
   have c16b0:=zbn c16
   have c16b1:=zqt c16
   obtain rfl:=zi H
   have fin1_:=zk trivial
   rotate_left
   · rw [if_neg c13] at H
     have c13b0:=zbn c13
     have c13b1:=zqt c13
     have H':=zk H
     clear H
     try go_wp2
     replace BK1:=zk (blk_drew BK1.out)
     replace BK2:=zk (blk_drew BK2.out)
     replace HB:=zk (below_drew1 HB.out)
     have p11:0≤(x6_1:Int):=of_decide_eq_true za25
     have q11:x6_1 < (3:Int):=of_decide_eq_true za25
     have hx11:=bt_at (⟨#[88,89,90]⟩:ByteArray) x6_1
     replace p11:=eq_true p11
     replace q11:=eq_true q11
     refine start_ (n:=12) (S:=fun w'=>True) (ds:=[]) #[false,false,false,false,false,false,false,false,false,false,false,false] (by kernel_rfl) rfl rfl trivial (fun hHeld=>?_);refine with_tabW spec_IsModel.tab5 spec_IsModel.bits5 (fun HT_ HW_=>?_)
     generalize wr.drew=w21 at BK1 BK2 HB hHeld ⊢
     refine zy 0 (some 14) HT_.out ?_
     refine zy 1 (some 15) HT_.out ?_
     refine take_ (i:=2) (N:=some 16) (v:=?_) (a':=?_) #[true,true,true,false,false,false,false,false,false,false,false,false] rfl rfl (take_ofW HT_.out HW_.out (by kernel_rfl)) (fun _ _ _ h=>h) (Or.inl ⟨by rfl,?_⟩) hHeld ?_ ?_
     rotate_left
     · intro w' _
       go_simp
       (with_reducible rfl)
     rotate_left
     · simp only [Act.put,zt,zu,zv,i64_w,i32_w]
       rfl
     refine zon 3 (some 17) HT_.out (fun K hK=>?_)
     refine goes_ Tryz.func35 (by kernel_rfl) rfl #[.string t3,.int .u8 (bt (⟨#[88,89,90]⟩:ByteArray) x6_1)] (by rfl) rfl rfl za11 ?_
     with_reducible refine (spec_CountByte.calls k1 t3 (bt (⟨#[88,89,90]⟩:ByteArray) x6_1) t4 _ A12.out).mono ?_
     rintro e w' ⟨rfl,⟨nd,rfl⟩⟩
     refine ⟨_,rfl,?_⟩
     refine hK.out _ _ trivial (fun hHeld=>?_)
     clear hK K
     refine zno (some 17) ?_
     refine zy 4 (some 18) HT_.out ?_
     refine zy 5 (some 19) HT_.out ?_
     refine zyu 6 (some 20) HT_.out ?_
     refine zyu 7 (some 21) HT_.out ?_
     refine zyu 8 (some 22) HT_.out ?_
     refine zyu 9 (some 23) HT_.out ?_
     refine zyu 10 (some 24) HT_.out ?_
     refine zy 11 (some 25) HT_.out ?_
     refine done_ (done_of HT_.out (by kernel_rfl)) ?_
     try go_wp2
     go_roundg k1
     case measure=>have:=HK1.out;omega
     case rel=>exact ⟨(wrap64 (x6_1+1)),(by (rfl)),H',⟨za43⟩,⟨za3 BK1.out⟩,⟨za3 BK2.out⟩,⟨za8⟩⟩
   · rw [if_neg c10] at H
     exact absurd H (by simp)
   · rw [if_neg c9] at H
     have c9b0:=zdnl c9
     clear c9
     have H':=zk H
     clear H
     go_wp2
     try simp only [Act.put,zt,zv,zu]
     go_loopg [7] k1 (fun kq v7 w'=>∃ (x7_2:Int),v7 = .int .i64 x7_2∧Aside0 (spec_IsModel.l1 kq x7_2 l0_0 a1_0 a1_1 a1_2=some r)∧Aside0 (kq≤k1)∧Aside0 (w'.heap[gb1]? = some (.cells #[(.slice A0_0 l0_0.length c0_0)] 26 (0,0)))∧Aside0 (w'.heap[gb2]? = some (.cells #[.string a1_0,.string a1_1,.string a1_2] 32 (0,0)))∧Aside0 (Below w.heap.size w w'))
     case atStart=>exact ⟨(0),(by (rfl)),H',⟨Nat.le_refl _⟩,⟨za3 BK1.out⟩,⟨za3 BK2.out⟩,⟨za8⟩⟩
     case round =>
      clear H'
      try clear c9
      try clear c9b0
      try clear hcz7_0
      try clear hfz7_0
      obtain ⟨x7_2,rfl,HA,HK2,BK1,BK2,HB⟩:=hrel
      cases gk with
      | zero=>exact absurd HA.out (by simp [spec_IsModel.l1])
      | succ k2 =>
       have H:=HA.out
       clear HA
       simp only [spec_IsModel.l1] at H
       by_cases c22:x7_2 < (l0_0.length:Int)
       rw [if_pos c22] at H
       have c22b0:=zdl c22
       clear c22
       by_cases c23:0≤x7_2
       rw [if_pos c23] at H
       have c23b0:=zdle c23
       clear c23
       obtain ⟨t7,A24,H⟩:=zO H
       try dsimp only at H
       by_cases c25:t7=true
       subst c25
       rw [if_pos rfl] at H
       try dsimp only at H
       have H':=zk H
       clear H
       have tag0_:=zk trivial
       have fin0_:=zk trivial
       rotate_left
       replace c25:=Bool.eq_false_iff.mpr c25
       subst c25
       rw [if_neg zff] at H
       try dsimp only at H
       obtain rfl:=zi H
       have tag0_:=zk trivial
       have fin1_:=zk trivial
       rotate_left
       · rw [if_neg c23] at H
         exact absurd H (by simp)
       rw [if_neg c22] at H
       have c22b0:=zdnl c22
       clear c22
       obtain ⟨t8,A34,H⟩:=zO H
       try dsimp only at H
       by_cases c35:t8=true
       subst c35
       rw [if_pos rfl] at H
       try dsimp only at H
       obtain ⟨t9,A36,H⟩:=zO H
       try dsimp only at H
       have tag1_:=zk trivial
       rotate_left
       replace c35:=Bool.eq_false_iff.mpr c35
       subst c35
       rw [if_neg zff] at H
       try dsimp only at H
       have tag1_:=zk trivial
       rotate_left
       all_goals first
        | (
          clear tag0_
          have hnb26:=NB1_2.out
          have hnc26:=NB2_1.out
          obtain ⟨hcz27_0,hfz27_0⟩:=blk1 BK1.out
          try go_wp2
          replace BK1:=zk (blk_drew BK1.out)
          replace BK2:=zk (blk_drew BK2.out)
          replace HB:=zk (below_drew1 HB.out)
          have p15006:0≤(x7_2:Int):=of_decide_eq_true za25
          have q15006:x7_2 < (l0_0.length:Int):=of_decide_eq_true za25
          obtain ⟨ad15006,A15006_5,c15006_5,A15006_6,c15006_6,e15006,hx15006_0,hx15006_1,hx15006_2,hx15006_3,hx15006_4,hx15006_5,hx15006_6,hx15006_7,hl15006_5,hi15006_5,hl15006_6,hi15006_6⟩:=at_T56 HR0_0.out x7_2 p15006 q15006
          have hw15006_7:=hx15006_7
          have hw15006_6:=hx15006_6
          have hw15006_5:=hx15006_5
          have hw15006_4:=hx15006_4
          have hw15006_3:=hx15006_3
          have hw15006_2:=hx15006_2
          have hw15006_1:=hx15006_1
          have hw15006_0:=hx15006_0
          cases e15006
          replace hx15006_0:=zx HB.out hx15006_0
          replace hx15006_1:=zx HB.out hx15006_1
          replace hx15006_2:=zx HB.out hx15006_2
          replace hx15006_3:=zx HB.out hx15006_3
          replace hx15006_4:=zx HB.out hx15006_4
          replace hx15006_5:=zx HB.out hx15006_5
          replace hx15006_6:=zx HB.out hx15006_6
          replace hx15006_7:=zx HB.out hx15006_7
          have HR15006_5:=zk hi15006_5
          have HC15006_5:=zk hl15006_5
          clear hi15006_5 hl15006_5
          have HR15006_6:=zk hi15006_6
          have HC15006_6:=zk hl15006_6
          clear hi15006_6 hl15006_6
          replace p15006:=eq_true p15006
          replace q15006:=eq_true q15006
          refine start_ (n:=8) (S:=fun w'=>w'.cell? ⟨gb1,0,none⟩=some (.slice (some ad15006) l0_0.length c0_0)∧w'.cell? ⟨gb2,0,none⟩=some (.string a1_0)∧w'.cell? ⟨gb2,1,none⟩=some (.string a1_1)∧w'.cell? ⟨gb2,2,none⟩=some (.string a1_2)∧w'.cell? (ad15006.add ((x7_2).toNat * 8))=some (.int .i64 ((rd_T56 l0_0 x7_2).f0))∧w'.cell? ⟨(ad15006.add ((x7_2).toNat * 8)).block,(ad15006.add ((x7_2).toNat * 8)).off+1,none⟩=some (.string ((rd_T56 l0_0 x7_2).f1))∧w'.cell? ⟨(ad15006.add ((x7_2).toNat * 8)).block,(ad15006.add ((x7_2).toNat * 8)).off+2,none⟩=some (.string ((rd_T56 l0_0 x7_2).f2))∧w'.cell? ⟨(ad15006.add ((x7_2).toNat * 8)).block,(ad15006.add ((x7_2).toNat * 8)).off+3,none⟩=some (.int .i64 ((rd_T56 l0_0 x7_2).f3.f0))∧w'.cell? ⟨(ad15006.add ((x7_2).toNat * 8)).block,(ad15006.add ((x7_2).toNat * 8)).off+4,none⟩=some (.string ((rd_T56 l0_0 x7_2).f3.f1))∧w'.cell? ⟨(ad15006.add ((x7_2).toNat * 8)).block,(ad15006.add ((x7_2).toNat * 8)).off+5,none⟩=some (.slice A15006_5 ((rd_T56 l0_0 x7_2).f3.f2).length c15006_5)∧w'.cell? ⟨(ad15006.add ((x7_2).toNat * 8)).block,(ad15006.add ((x7_2).toNat * 8)).off+6,none⟩=some (.slice A15006_6 ((rd_T56 l0_0 x7_2).f4).length c15006_6)∧w'.cell? ⟨(ad15006.add ((x7_2).toNat * 8)).block,(ad15006.add ((x7_2).toNat * 8)).off+7,none⟩=some (.int .i64 ((rd_T56 l0_0 x7_2).f5))) (ds:=[]) #[false,false,false,false,false,false,false,false] (by kernel_rfl) rfl rfl ⟨(blk_cell BK1.out 0).trans rfl,(blk_cell BK2.out 0).trans rfl,(blk_cell BK2.out 1).trans rfl,(blk_cell BK2.out 2).trans rfl,((HB.out.cell (World.block_lt_of_cell? w _ hw15006_0)).trans hw15006_0),((HB.out.cell (World.block_lt_of_cell? w _ hw15006_1)).trans hw15006_1),((HB.out.cell (World.block_lt_of_cell? w _ hw15006_2)).trans hw15006_2),((HB.out.cell (World.block_lt_of_cell? w _ hw15006_3)).trans hw15006_3),((HB.out.cell (World.block_lt_of_cell? w _ hw15006_4)).trans hw15006_4),((HB.out.cell (World.block_lt_of_cell? w _ hw15006_5)).trans hw15006_5),((HB.out.cell (World.block_lt_of_cell? w _ hw15006_6)).trans hw15006_6),((HB.out.cell (World.block_lt_of_cell? w _ hw15006_7)).trans hw15006_7)⟩ (fun hHeld=>?_);refine with_tabW spec_IsModel.tab10 spec_IsModel.bits10 (fun HT_ HW_=>?_)
          generalize wr.drew=w28 at BK1 BK2 HB HR15006_5 HR15006_6 hx15006_0 hx15006_1 hx15006_2 hx15006_3 hx15006_4 hx15006_5 hx15006_6 hx15006_7 hHeld ⊢
          refine zy 0 (some 33) HT_.out ?_
          refine zy 2 (some 35) HT_.out ?_
          refine ztk 1 (some 34) HT_.out HW_.out hHeld ?_
          refine zy 3 (some 36) HT_.out ?_
          refine ztk 4 (some 37) HT_.out HW_.out hHeld ?_
          refine ztk 5 (some 38) HT_.out HW_.out hHeld ?_
          refine zon 6 (some 39) HT_.out (fun K hK=>?_)
          refine goes_ Tryz.func40 (by kernel_rfl) rfl #[.agg #[.int .i64 ((rd_T56 l0_0 x7_2).f0),.string ((rd_T56 l0_0 x7_2).f1),.string ((rd_T56 l0_0 x7_2).f2),.int .i64 ((rd_T56 l0_0 x7_2).f3.f0),.string ((rd_T56 l0_0 x7_2).f3.f1),.slice A15006_5 ((rd_T56 l0_0 x7_2).f3.f2).length c15006_5,.slice A15006_6 ((rd_T56 l0_0 x7_2).f4).length c15006_6,.int .i64 ((rd_T56 l0_0 x7_2).f5)],.agg #[.string a1_0,.string a1_1,.string a1_2]] (by rfl) rfl rfl za11 ?_
          with_reducible refine (spec_HoldsFor.calls k2 ((rd_T56 l0_0 x7_2).f0) ((rd_T56 l0_0 x7_2).f1) ((rd_T56 l0_0 x7_2).f2) ((rd_T56 l0_0 x7_2).f3.f0) ((rd_T56 l0_0 x7_2).f3.f1) _ _ ((rd_T56 l0_0 x7_2).f3.f2) _ _ ((rd_T56 l0_0 x7_2).f4) ((rd_T56 l0_0 x7_2).f5) a1_0 a1_1 a1_2 _ _ ?side1 ?side2 ?side3 ?side4 A24.out).mono ?_
          (case side1=>repeat ((exact (Kd.C_below HR15006_5.out HB.out))))
          (case side2=>exact HC15006_5.out)
          (case side3=>repeat ((exact (Kd.C_below HR15006_6.out HB.out))))
          (case side4=>exact HC15006_6.out)
          rintro e w29 ⟨rfl,hb⟩
          refine ⟨_,rfl,?_⟩
          replace BK1:=yb BK1 hb
          replace BK2:=yb BK2 hb
          replace HB:=yB HB hb
          (try clear hb)
          (try clear hb2)
          (try clear hk)
          (try clear hi)
          refine hK.out _ _ ⟨(blk_cell BK1.out 0).trans rfl,(blk_cell BK2.out 0).trans rfl,(blk_cell BK2.out 1).trans rfl,(blk_cell BK2.out 2).trans rfl,((HB.out.cell (World.block_lt_of_cell? w _ hw15006_0)).trans hw15006_0),((HB.out.cell (World.block_lt_of_cell? w _ hw15006_1)).trans hw15006_1),((HB.out.cell (World.block_lt_of_cell? w _ hw15006_2)).trans hw15006_2),((HB.out.cell (World.block_lt_of_cell? w _ hw15006_3)).trans hw15006_3),((HB.out.cell (World.block_lt_of_cell? w _ hw15006_4)).trans hw15006_4),((HB.out.cell (World.block_lt_of_cell? w _ hw15006_5)).trans hw15006_5),((HB.out.cell (World.block_lt_of_cell? w _ hw15006_6)).trans hw15006_6),((HB.out.cell (World.block_lt_of_cell? w _ hw15006_7)).trans hw15006_7)⟩ (fun hHeld=>?_)
          clear hK K
          refine zno (some 39) ?_
          refine zy 7 (some 40) HT_.out ?_
          refine done_ (done_of HT_.out (by kernel_rfl)) ?_
          try go_wp2
          first
          | (
           clear fin0_
           go_roundg k2
           case measure=>have:=HK1.out;have:=HK2.out;omega
           case rel=>exact ⟨(wrap64 (x7_2+1)),za23,H',⟨by have:=HK1.out;have:=HK2.out;omega⟩,⟨za0 BK1.out⟩,⟨za0 BK2.out⟩,⟨za9⟩⟩)
          | (
           clear fin1_
           go_ret
           exact ⟨za24,za9⟩))
        | (
          clear tag1_
          obtain rfl:=zi H
          have hnb37:=NB1_2.out
          have hnc37:=NB2_1.out
          obtain ⟨hcz38_0,hfz38_0⟩:=blk1 BK1.out
          go_wp2_with (first|((with_reducible refine gate_callee (f:=22) rfl ?_);refine zg (some 42) Tryz.func22 #[.agg #[.slice A0_0 l0_0.length c0_0]] rfl za11 ?_;(with_reducible refine (spec_IsValidProblem.calls k2 _ _ l0_0 _ _ ?side1 ?side2 A34.out).mono ?_);(case side1=>repeat ((exact (Kd.C_below HR0_0.out HB.out))));(case side2=>exact HC0_0.out);rintro e w39 ⟨rfl,hb⟩;refine ⟨_,rfl,?_⟩;replace BK1:=yb BK1 hb;replace BK2:=yb BK2 hb;replace HB:=yB HB hb;(try clear hb);obtain ⟨hcz40_0,hcz40_1,hcz40_2,hfz40_0,hfz40_1,hfz40_2⟩:=blk3 BK2.out)|(go_at_call 41;(with_reducible refine (spec_IsValues.calls k2 a1_0 a1_1 a1_2 t9 _ A36.out).mono ?_);rintro e w41 ⟨rfl,hb⟩;replace BK1:=yb BK1 hb;replace BK2:=yb BK2 hb;replace HB:=yB HB hb;(try clear hb)))
          go_ret
          exact ⟨by (rfl),za8⟩)
   all_goals
    try go_wp2
    replace BK1:=zk (blk_drew BK1.out)
    replace BK2:=zk (blk_drew BK2.out)
    replace HB:=zk (below_drew1 HB.out)
    have p11:0≤(x6_1:Int):=of_decide_eq_true za25
    have q11:x6_1 < (3:Int):=of_decide_eq_true za25
    have hx11:=bt_at (⟨#[88,89,90]⟩:ByteArray) x6_1
    replace p11:=eq_true p11
    replace q11:=eq_true q11
    refine start_ (n:=12) (S:=fun w'=>w'.cell? ⟨gb2,0,none⟩=some (.string a1_0)∧w'.cell? ⟨gb2,1,none⟩=some (.string a1_1)∧w'.cell? ⟨gb2,2,none⟩=some (.string a1_2)) (ds:=[]) #[false,false,false,false,false,false,false,false,false,false,false,false] (by kernel_rfl) rfl rfl ⟨(blk_cell BK2.out 0).trans rfl,(blk_cell BK2.out 1).trans rfl,(blk_cell BK2.out 2).trans rfl⟩ (fun hHeld=>?_);refine with_tabW spec_IsModel.tab5 spec_IsModel.bits5 (fun HT_ HW_=>?_)
    generalize wr.drew=w17 at BK1 BK2 HB hHeld ⊢
    refine zy 0 (some 14) HT_.out ?_
    refine zy 1 (some 15) HT_.out ?_
    refine ztk 2 (some 16) HT_.out HW_.out hHeld ?_
    refine zon 3 (some 17) HT_.out (fun K hK=>?_)
    refine goes_ Tryz.func35 (by kernel_rfl) rfl #[.string t3,.int .u8 (bt (⟨#[88,89,90]⟩:ByteArray) x6_1)] (by rfl) rfl rfl za11 ?_
    with_reducible refine (spec_CountByte.calls k1 t3 (bt (⟨#[88,89,90]⟩:ByteArray) x6_1) t4 _ A12.out).mono ?_
    rintro e w' ⟨rfl,⟨nd,rfl⟩⟩
    refine ⟨_,rfl,?_⟩
    have p14:0≤(x6_1:Int):=of_decide_eq_true za25
    have q14:x6_1 < (3:Int):=of_decide_eq_true za25
    have hx14:=bt_at (⟨#[88,89,90]⟩:ByteArray) x6_1
    replace p14:=eq_true p14
    replace q14:=eq_true q14
    refine hK.out _ _ ⟨(blk_cell BK2.out 0).trans rfl,(blk_cell BK2.out 1).trans rfl,(blk_cell BK2.out 2).trans rfl⟩ (fun hHeld=>?_)
    clear hK K
    refine zno (some 17) ?_
    refine zy 4 (some 18) HT_.out ?_
    refine zy 5 (some 19) HT_.out ?_
    refine zy 7 (some 21) HT_.out ?_
    refine ztk 6 (some 20) HT_.out HW_.out hHeld ?_
    refine ztk 8 (some 22) HT_.out HW_.out hHeld ?_
    refine zon 9 (some 23) HT_.out (fun K hK=>?_)
    refine goes_ Tryz.func39 (by kernel_rfl) rfl #[.agg #[.string a1_0,.string a1_1,.string a1_2],.int .u8 (bt (⟨#[88,89,90]⟩:ByteArray) x6_1)] (by rfl) rfl rfl za11 ?_
    with_reducible refine (spec_ValueOf.calls a1_0 a1_1 a1_2 (bt (⟨#[88,89,90]⟩:ByteArray) x6_1) t5 _ A15.out).mono ?_
    rintro e w18 ⟨rfl,hb⟩
    refine ⟨_,rfl,?_⟩
    replace BK1:=yb BK1 hb
    replace BK2:=yb BK2 hb
    replace HB:=yB HB hb
    (try clear hb)
    (try clear hb2)
    (try clear hk)
    (try clear hi)
    refine hK.out _ _ ⟨(blk_cell BK2.out 0).trans rfl,(blk_cell BK2.out 1).trans rfl,(blk_cell BK2.out 2).trans rfl⟩ (fun hHeld=>?_)
    clear hK K
    refine zno (some 23) ?_
    refine zy 10 (some 24) HT_.out ?_
    refine zy 11 (some 25) HT_.out ?_
    refine done_ (done_of HT_.out (by kernel_rfl)) ?_
    try go_wp2
    first
    | (
       clear fin0_
       go_roundg k1
       case measure=>have:=HK1.out;omega
       case rel=>exact ⟨(wrap64 (x6_1+1)),za23,H',⟨za43⟩,⟨za0 BK1.out⟩,⟨za0 BK2.out⟩,⟨za9⟩⟩)
    | (
       clear fin1_
       go_ret
       exact ⟨by (rfl),za8⟩)
def spec_l10Draw.l0:Nat→ByteArray→Int→Int→List Int→Int→Int→List (S56)→Option ((List (S56)) × Int × Int)
 | 0,_,_,_,_,_,_,_=>none
 | k+1,x6,x7,x8,x1000,x1001,x1002,x43003000=>if x8 < x7 then ((spec_l9Draw.f k x1000 x1001 x1002 x6).bind fun bt43012=>(if x43003000.length < 1172812402961 then (spec_l10Draw.l0 k x6 x7 (wrap64 (x8+1)) x1000 bt43012.2.2.2.2.2.2.2.2.1 bt43012.2.2.2.2.2.2.2.2.2 (x43003000 ++ [(⟨bt43012.1,bt43012.2.1,bt43012.2.2.1,(⟨bt43012.2.2.2.1,bt43012.2.2.2.2.1,bt43012.2.2.2.2.2.1⟩:S54),bt43012.2.2.2.2.2.2.1,bt43012.2.2.2.2.2.2.2.1⟩:S56)])) else (none))) else (some (x43003000,x1001,x1002))
def spec_l10Draw.f (k:Nat) (s0_0:List Int) (s0_1:Int) (s0_2:Int) (a1:Int):Option ((List (S56)) × Int × Int):=(spec_l1Pick.f s0_0 s0_1 s0_2 (([⟨#[88]⟩,⟨#[88,89]⟩,⟨#[88,89]⟩,⟨#[88,89,90]⟩]:List ByteArray))).bind fun bt43006=>((spec_l1Below.f s0_0 bt43006.2.1 bt43006.2.2 a1).bind fun bt43009=>(spec_l10Draw.l0 k bt43006.1 (wrap64 (1+bt43009.1)) 0 s0_0 bt43009.2.1 bt43009.2.2 ([]:List (S56))))
def spec_l10Draw.T7:Bool × List (List Nat × List Nat):=(true,[([],[]),([0],[0]),([],[]),([],[]),([2,3],[2,3]),([4],[4]),([1,5,4],[1,5]),([0,1,2,3,4,5,6],[]),([7,6,6,0,1,2,3,4,5,6],[6,7])])
def spec_l10Draw.B7:List Nat:=[0,1,0,0,12,28,63,127,255]
theorem spec_l10Draw.tab7:rtab .any (opsOf Tryz.f43 7)=spec_l10Draw.T7:=by kernel_rfl
theorem spec_l10Draw.bits7:waitsOk spec_l10Draw.T7.2 spec_l10Draw.B7=true:=by kernel_rfl
theorem spec_l10Draw.calls (k:Nat) (g:Nat) (s0_0:List Int) (s0_1:Int) (s0_2:Int) (a1:Int) (r1:List (S56)) (r2:Int) (r3:Int) (w0 w:World) (hI:IsS77 w0 w g s0_0 s0_1 s0_2) (hB:Below w0.heap.size w0 w) (h:spec_l10Draw.f k s0_0 s0_1 s0_2 a1=some (r1,r2,r3)) :
   Calls Tryz.prog 43 #[.pointer (some ⟨g,0,none⟩),.int .i64 a1] w fun e w'=>∃ v0_:Value,e = .returned (.agg #[v0_])∧Kd.N k56 56 w' w.heap.size (fun k_=>(w.heap.size≤k_)) v0_ r1∧IsS77 w0 w' g s0_0 r2 r3∧Below w0.heap.size w0 w'∧KeepBut w w' g none:=by
 have hu26:=Tryz.underlying26
 have HI0:=zk hI
 have HK:=zk (KeepBut.refl w g none)
 have HL:=zk hB.size
 clear hI
 have HW0:=zk hB.size
 have HB:=zk hB
 clear hB
 have H:=h
 unfold spec_l10Draw.f at H
 clear h
 obtain ⟨y43003,hy43003⟩:∃ y_:List ByteArray,y_=(([⟨#[88]⟩,⟨#[88,89]⟩,⟨#[88,89]⟩,⟨#[88,89,90]⟩]:List ByteArray)):=⟨_,rfl⟩
 replace H:((spec_l1Pick.f s0_0 s0_1 s0_2 y43003).bind fun bt6=>((spec_l1Below.f s0_0 bt6.2.1 bt6.2.2 a1).bind fun bt9=>(spec_l10Draw.l0 k bt6.1 (wrap64 (1+bt9.1)) 0 s0_0 bt9.2.1 bt9.2.2 ([]:List (S56)))))=some (r1,r2,r3):=by ((rw [hy43003];with_reducible exact H))
 have Ny3:=zk hy43003
 clear hy43003
 obtain ⟨⟨t6,t7,t8⟩,A3,H⟩:=zO H
 try dsimp only at H
 obtain ⟨⟨t9,t10,t11⟩,A4,H⟩:=zO H
 try dsimp only at H
 have H':=zk H
 clear H
 go_enter Tryz.func43,Tryz.ntmps43
 go_wp2_with (first|((with_reducible refine gate_dst (N:=4) rfl ?_);refine zE (cs:=#[.slice none 0 0]) (t:=26) ?_;intro gb1 hg w5 hbox hb;replace HB:=yB HB hb;have BK1:=zk hbox;have GW1:=zk ((by rw [hg];exact (keep_size (w:=w) (g:=g) (row:=none) za16):w.heap.size≤gb1));have GE1:=zk ((Nat.le_trans HW0.out (by rw [hg];exact (keep_size (w:=w) (g:=g) (row:=none) za16):w.heap.size≤gb1):w0.heap.size≤gb1));have NB0_1:=zk (zm hg (IsS77.lt (show IsS77 w0 _ g s0_0 s0_1 s0_2 from za27)));have NB1_0:=zk (zM hg (IsS77.lt (show IsS77 w0 _ g s0_0 s0_1 s0_2 from za27)));replace HI0:=zk (IsS77.below za27 hb);replace HK:=yk HK hb;clear hb hbox hg)|((with_reducible refine gate_dst (N:=5) rfl ?_);refine zE (cs:=#[.slice none 0 0]) (t:=26) ?_;intro gb2 hg w6 hbox hb;replace HB:=yB HB hb;have BK2:=zk hbox;have GW2:=zk ((by rw [hg];exact (keep_size (w:=w) (g:=g) (row:=none) za16):w.heap.size≤gb2));have GE2:=zk ((Nat.le_trans HW0.out (by rw [hg];exact (keep_size (w:=w) (g:=g) (row:=none) za16):w.heap.size≤gb2):w0.heap.size≤gb2));have NB1_2:=yn hg BK1;have NB2_1:=yp hg BK1;have NB0_2:=zk (zm hg (IsS77.lt (show IsS77 w0 _ g s0_0 s0_1 s0_2 from za27)));have NB2_0:=zk (zM hg (IsS77.lt (show IsS77 w0 _ g s0_0 s0_1 s0_2 from za27)));replace HI0:=zk (IsS77.below za27 hb);replace BK1:=yb BK1 hb;replace HK:=yk HK hb;clear hb hbox hg;have hnb7:=NB2_1.out;have hnc7:=NB1_2.out;have hnb8:=NB2_0.out;have hnc8:=NB0_2.out;obtain ⟨hcz9_0,hfz9_0⟩:=blk1 BK2.out)|((with_reducible refine gate_dst (N:=11) rfl ?_);refine Kd.R_lit Kd.string _ 9 ?hg (N:=11) ?hd (xs:=([⟨#[88]⟩,⟨#[88,89]⟩,⟨#[88,89]⟩,⟨#[88,89,90]⟩]:List ByteArray)) (inner:=[.string ⟨#[88]⟩,.string ⟨#[88,89]⟩,.string ⟨#[88,89]⟩,.string ⟨#[88,89,90]⟩]) (ok:=fun _=>True) (okp:=fun _=>True) ?hr ?hp (fun _ hk=>hk) trivial (Below.refl _ _) (Nat.le_refl _) (by simp) ?_;(case hd=>rfl);(case hg=>rfl);(case hr=>((go_simp;done)));(case hp=>exact (Reps.one (show Kd.M Kd.string _ _ _ (⟨#[88]⟩:ByteArray) [.string ⟨#[88]⟩] from rfl) (Reps.one (show Kd.M Kd.string _ _ _ (⟨#[88,89]⟩:ByteArray) [.string ⟨#[88,89]⟩] from rfl) (Reps.one (show Kd.M Kd.string _ _ _ (⟨#[88,89]⟩:ByteArray) [.string ⟨#[88,89]⟩] from rfl) (Reps.one (show Kd.M Kd.string _ _ _ (⟨#[88,89,90]⟩:ByteArray) [.string ⟨#[88,89,90]⟩] from rfl) (Reps.none _ _))))));intro v4 w10 ho11 hb hg_ hnew_;clear hg_ hnew_;((rw [← Ny3.out] at ho11));have HO5:=zk (Kd.R_lower (Kd.R_newM (M:=fun k_=>(w.heap.size≤k_)) ho11 (keep_size (w:=w) (g:=g) (row:=none) za41) (fun k_ h_=>h_)) (keep_size (w:=w) (g:=g) (row:=none) za41));replace BK1:=zk (blk_below (g:=gb1) (o:=.cells #[.slice none 0 0] 26 (0,0)) (zpw BK1.out) hb);replace BK2:=zk (blk_below (g:=gb2) (o:=.cells #[.slice none 0 0] 26 (0,0)) (zpu BK2.out) hb);replace HB:=zk (below_step za52 hb);replace HI0:=zk (IsS77.below (show IsS77 w0 (w6.setCell ⟨gb2,0,none⟩ (.slice none 0 0)) g s0_0 s0_1 s0_2 from za45) hb);replace HK:=yk HK hb;clear hb ho11;obtain ⟨Ao12,co12,eo12⟩:=Kd.R_slice HO5.out;subst eo12)|((with_reducible refine gate_callee (f:=38) rfl ?_);refine zg (some 12) Tryz.func38 #[.pointer (some ⟨g,0,none⟩),.slice Ao12 y43003.length co12] rfl za11 ?_;(with_reducible refine (spec_l1Pick.calls g s0_0 s0_1 s0_2 _ _ y43003 t6 t7 t8 w0 _ za45 za52 ?side3 ?side4 ?side5 A3.out).mono ?_);(case side3=>repeat ((exact (Kd.R_reads' HO5.out).2.2)));(case side4=>exact (Kd.R_reads' HO5.out).2.1);(case side5=>exact far_slice (IsS77.own_ne HI0.out HO5.out (by decide)));rintro e w13 ⟨rfl,hi,hb,hk⟩;refine ⟨_,rfl,?_⟩;replace BK1:=yq hk BK1 NB1_0;replace BK2:=yq hk BK2 NB2_0;replace HO5:=zk (Kd.R_mono (Kd.R_keep (IsS77.apart (show IsS77 w0 _ g s0_0 s0_1 s0_2 from za45) (za1 HO5.out) (by decide)) hk (fun _ h=>h.2)) (fun _ h=>h.1));replace HK:=yK HK hk;replace HB:=zk hb;replace HI0:=zk hi;(try clear hb hk hi))|((with_reducible refine gate_callee (f:=42) rfl ?_);refine zg (some 15) Tryz.func42 #[.pointer (some ⟨g,0,none⟩),.int .i64 a1] rfl za11 ?_;(with_reducible refine (spec_l1Below.calls g s0_0 t7 t8 a1 t9 t10 t11 w0 _ za45 za52 A4.out).mono ?_);rintro e w14 ⟨rfl,hi,hb,hk⟩;refine ⟨_,rfl,?_⟩;replace BK1:=yq hk BK1 NB1_0;replace BK2:=yq hk BK2 NB2_0;replace HO5:=zk (Kd.R_mono (Kd.R_keep (IsS77.apart (show IsS77 w0 _ g s0_0 t7 t8 from za45) (za1 HO5.out) (by decide)) hk (fun _ h=>h.2)) (fun _ h=>h.1));replace HK:=yK HK hk;replace HB:=zk hb;replace HI0:=zk hi;(try clear hb hk hi)))
 try simp only [Act.put,zt,zv,zu]
 go_loopg [8] k (fun kq v8 w'=>∃ (x8_1:Int) (x1001_1:Int) (x1002_1:Int) (x43003000_1:List (S56)) (u43003000:Value),v8 = .int .i64 x8_1∧Aside0 (spec_l10Draw.l0 kq t6 (wrap64 (1+t9)) x8_1 s0_0 x1001_1 x1002_1 x43003000_1=some (r1,r2,r3))∧Aside0 (kq≤k)∧Aside0 (Kd.N k56 56 w' w.heap.size (fun k_=>(w.heap.size≤k_)∧k_ ≠ gb1∧k_ ≠ gb2∧k_ ≠ g) u43003000 x43003000_1)∧Aside0 (w'.heap[gb1]? = some (.cells #[(.slice none 0 0)] 26 (0,0)))∧Aside0 (w'.heap[gb2]? = some (.cells #[u43003000] 26 (0,0)))∧Aside0 (IsS77 w0 w' g s0_0 x1001_1 x1002_1)∧Aside0 (KeepBut w w' g none)∧Aside0 (Below w0.heap.size w0 w'))
 case atStart=>exact ⟨(0),(t10),(t11),(([]:List (S56))),(.slice none 0 0),(by (rfl)),H',⟨Nat.le_refl _⟩,⟨by (exact Kd.N_nil _ _ _ _ _)⟩,⟨za3 BK1.out⟩,⟨za3 BK2.out⟩,⟨za45⟩,⟨za41⟩,⟨za52⟩⟩
 case round =>
  clear H'
  try clear hcz9_0
  try clear hfz9_0
  obtain ⟨x8_1,x1001_1,x1002_1,x43003000_1,u43003000,rfl,HA,HK1,HO_43003000,BK1,BK2,HI0,HK,HB⟩:=hrel
  cases gk with
  | zero=>exact absurd HA.out (by simp [spec_l10Draw.l0])
  | succ k1 =>
   have H:=HA.out
   clear HA
   simp only [spec_l10Draw.l0] at H
   by_cases c15:x8_1 < (wrap64 (1+t9))
   rw [if_pos c15] at H
   have c15b0:=zdl c15
   have c15w:decide (x8_1 < (IntKind.i64.wrap (1+t9)))=true:=by simp only [i64_w];exact c15b0
   clear c15
   obtain ⟨⟨t12,t13,t14,t15,t16,t17,t20,t23,t24,t25⟩,A16,H⟩:=zO H
   try dsimp only at H
   by_cases c17:x43003000_1.length < 1172812402961
   ·rw [if_pos c17] at H
    have LMc17:=zk c17
    clear c17
    obtain ⟨y43026,hy43026⟩:∃ y_:List (S56),y_=(x43003000_1 ++ [(⟨t12,t13,t14,(⟨t15,t16,t17⟩:S54),t20,t23⟩:S56)]):=⟨_,rfl⟩
    replace H:(spec_l10Draw.l0 k1 t6 (wrap64 (1+t9)) (wrap64 (x8_1+1)) s0_0 t24 t25 y43026)=some (r1,r2,r3):=by ((rw [hy43026];with_reducible exact H))
    have Ny26:=zk hy43026
    clear hy43026
    have H':=zk H
    clear H
    try go_wp2
    replace HO_43003000:=zk (Kd.N_drew HO_43003000.out)
    replace BK1:=zk (blk_drew BK1.out)
    replace BK2:=zk (blk_drew BK2.out)
    replace HI0:=zk (IsS77.drew HI0.out)
    replace HK:=zk (keep_drew HK.out)
    replace HB:=zk (below_drew1 HB.out)
    refine start_ (n:=9) (S:=fun w'=>w'.cell? ⟨gb2,0,none⟩=some (u43003000)) (ds:=[8]) #[false,false,false,false,false,false,false,false,false] (by kernel_rfl) rfl rfl ((blk_cell BK2.out 0).trans rfl) (fun hHeld=>?_);refine with_tabW spec_l10Draw.tab7 spec_l10Draw.bits7 (fun HT_ HW_=>?_)
    generalize wr.drew=w18 at HO_43003000 BK1 BK2 HI0 HK HB hHeld ⊢
    refine zy 0 (some 22) HT_.out ?_
    refine zy 2 (some 24) HT_.out ?_
    refine zy 3 (some 25) HT_.out ?_
    refine ztk 1 (some 23) HT_.out HW_.out hHeld ?_
    refine zon 4 (some 26) HT_.out (fun K hK=>?_)
    refine goes_ Tryz.func61 (by kernel_rfl) rfl #[.pointer (some ⟨g,0,none⟩),.string t6] (by rfl) rfl rfl za11 ?_
    with_reducible refine (spec_l9Draw.calls k1 g s0_0 x1001_1 x1002_1 t6 t12 t13 t14 t15 t16 t17 t20 t23 t24 t25 w0 _ za45 za52 A16.out).mono ?_
    rintro e w19 ⟨v18,v21,rfl,ho0,ho1,hi,hb,hk⟩
    refine ⟨_,rfl,?_⟩
    have HO19:=zk (Kd.N_lower (Kd.N_mono (ok':=fun k_=>(w.heap.size≤k_)∧some k_ ≠ (v21:Value).ownBlock∧some k_ ≠ (u43003000:Value).ownBlock∧k_ ≠ gb1∧k_ ≠ gb2∧k_ ≠ g) ho0 (fun k_ hk_=>⟨(Nat.le_trans (keep_size (w:=w) (g:=g) (row:=none) za41) hk_.1),hk_.2,(Kd.fresh' (Kd.N_lt (za6 HO_43003000.out)) k_ hk_.1),(zF BK1.out k_ hk_.1),(zF BK2.out k_ hk_.1),(IsS77.fresh za45 k_ hk_.1)⟩)) (keep_size (w:=w) (g:=g) (row:=none) za41))
    have HO22:=zk (Kd.R_lower (Kd.R_newM (M:=fun k_=>(w.heap.size≤k_)) (Kd.R_mono (ok':=fun k_=>True) ho1 (fun _ hk_=>trivial)) (keep_size (w:=w) (g:=g) (row:=none) za41) (fun k_ h_=>h_)) (keep_size (w:=w) (g:=g) (row:=none) za41))
    replace HB:=zk hb
    replace HO_43003000:=zk (Kd.N_mono (Kd.N_told (Kd.N_told (Kd.N_oldK (Kd.N_mono (ok:=fun k_=>(((w.heap.size≤k_))∧(k_ ≠ gb1∧(k_ ≠ gb2∧k_ ≠ g)))) (za6 HO_43003000.out) (fun k_ hk_=>(⟨hk_,hk_.2.2.2⟩:_∧k_ ≠ g))) hk) (Kd.N_base ho0)) (Kd.R_base ho1)) (fun _ h_=>h_.1))
    replace BK1:=yq hk BK1 NB1_0
    replace BK2:=yq hk BK2 NB2_0
    replace HK:=yK HK hk
    replace HI0:=zk hi
    (try clear hb)
    (try clear hb2)
    (try clear hk)
    (try clear hi)
    (try clear ho0)
    (try clear ho1)
    obtain ⟨Ao21,co21,eo21⟩:=Kd.N_slice HO19.out
    ((subst eo21))
    obtain ⟨Ao22,co22,eo22⟩:=Kd.R_slice HO22.out
    ((subst eo22))
    refine hK.out _ _ ((blk_cell BK2.out 0).trans rfl) (fun hHeld=>?_)
    clear hK K
    refine zno (some 26) ?_
    refine zon 5 (some 27) HT_.out (fun K hK=>?_)
    refine value_ (w1:=?_) (v:=?_) (by rfl) rfl ?_ ?_
    rotate_left 2
    ·go_simp
     constructor
     ·rfl
     ·rfl
    refine hK.out _ _ ((blk_cell (blk_alloc BK2.out _) 0).trans rfl) (fun hHeld=>?_)
    clear hK K
    refine zno (some 27) ?_
    refine zon 6 (some 28) HT_.out (fun K hK=>?_)
    refine Kd.N_append_step k56 w.heap.size (by rfl) (.tmp 23) (.tmp 27) 24 56 (.agg #[(.int .i64 0),(.string ⟨#[]⟩),(.string ⟨#[]⟩),(.int .i64 0),(.string ⟨#[]⟩),(.slice none 0 0),(.slice none 0 0),(.int .i64 0)]) 120 rfl Tryz.underlying24 info56 rfl (by decide) (by omega) u43003000 x43003000_1 (⟨t12,t13,t14,(⟨t15,t16,t17⟩:S54),t20,t23⟩:S56) [.int .i64 t12,.string t13,.string t14,.int .i64 t15,.string t16,.slice Ao21 t17.length co21,.slice Ao22 t20.length co22,.int .i64 t23] (fun k_=>(w.heap.size≤k_)∧k_ ≠ gb1∧k_ ≠ gb2∧k_ ≠ g) (fun k_=>((fun k_=>(w.heap.size≤k_)∧k_ ≠ gb1∧k_ ≠ gb2∧k_ ≠ g)) k_∧some k_ ≠ (u43003000:Value).ownBlock) rfl rfl ?aP (fun _ hk=>hk) ?aF ?aO (Below.refl _ _) ?aS ?aL ?_
    (case aP=>exact (k56_mkF _ _ (⟨t12,t13,t14,(⟨t15,t16,t17⟩:S54),t20,t23⟩:S56) (Kd.N_reads' (Kd.N_mono (ok':=(fun k_=>((fun k_=>(w.heap.size≤k_)∧k_ ≠ gb1∧k_ ≠ gb2∧k_ ≠ g)) k_∧some k_ ≠ (u43003000:Value).ownBlock)) (HO19.out) (fun k_ hk=>⟨⟨hk.1,⟨hk.2.2.2.1,⟨hk.2.2.2.2.1,hk.2.2.2.2.2⟩⟩⟩,hk.2.2.1⟩))).2.1 (Kd.N_F (Kd.N_mono (ok':=(fun k_=>((fun k_=>(w.heap.size≤k_)∧k_ ≠ gb1∧k_ ≠ gb2∧k_ ≠ g)) k_∧some k_ ≠ (u43003000:Value).ownBlock)) (HO19.out) (fun k_ hk=>⟨⟨hk.1,⟨hk.2.2.2.1,⟨hk.2.2.2.2.1,hk.2.2.2.2.2⟩⟩⟩,hk.2.2.1⟩))) (Kd.R_reads' (Kd.R_mono (ok':=(fun k_=>((fun k_=>(w.heap.size≤k_)∧k_ ≠ gb1∧k_ ≠ gb2∧k_ ≠ g)) k_∧some k_ ≠ (u43003000:Value).ownBlock)) (IsS77.apart HI0.out (Kd.R_types (Kd.R_types (Kd.R_apart' (HO22.out) (Kd.N_typed HO_43003000.out) (by decide)) BK1.out (by decide)) BK2.out (by decide)) (by decide)) (fun k_ hk=>⟨⟨hk.1.1.1.1.1,⟨hk.1.1.2,⟨hk.1.2,hk.2⟩⟩⟩,hk.1.1.1.2⟩))).2.1 (Kd.R_F (Kd.R_mono (ok':=(fun k_=>((fun k_=>(w.heap.size≤k_)∧k_ ≠ gb1∧k_ ≠ gb2∧k_ ≠ g)) k_∧some k_ ≠ (u43003000:Value).ownBlock)) (IsS77.apart HI0.out (Kd.R_types (Kd.R_types (Kd.R_apart' (HO22.out) (Kd.N_typed HO_43003000.out) (by decide)) BK1.out (by decide)) BK2.out (by decide)) (by decide)) (fun k_ hk=>⟨⟨hk.1.1.1.1.1,⟨hk.1.1.2,⟨hk.1.2,hk.2⟩⟩⟩,hk.1.1.1.2⟩)))))
    (case aF=>exact (fun k_ hk=>⟨(Nat.le_trans (keep_size (w:=w) (g:=g) (row:=none) za41) hk),zF BK1.out k_ hk,zF BK2.out k_ hk,IsS77.fresh za45 k_ hk⟩))
    (case aO=>exact (by (with_reducible repeat ((apply Kd.N_drewN)));exact Kd.N_mono HO_43003000.out (fun _ hk=>⟨hk.1.1.1,⟨hk.1.1.2.1,⟨hk.1.1.2.2.1,hk.1.1.2.2.2⟩⟩⟩)))
    (case aS=>exact (keep_size (w:=w) (g:=g) (row:=none) za41))
    (case aL=>have:=LMc17.out;omega)
    intro v27 w20 ho hb hg hat
    rw [← Ny26.out] at ho
    replace BK1:=zk (blk_grown (g:=gb1) (o:=.cells #[.slice none 0 0] 26 (0,0)) (za3 BK1.out) hg (Kd.N_ne HO_43003000.out BK1.out (by decide)))
    replace BK2:=zk (blk_grown (g:=gb2) (o:=.cells #[u43003000] 26 (0,0)) (za3 BK2.out) hg (Kd.N_ne HO_43003000.out BK2.out (by decide)))
    replace HB:=zk (below_weaken za52 HL.out hb)
    replace HK:=zk (KeepBut.trans za41 (KeepBut.of_grown hg g) (Kd.N_base2 HO_43003000.out))
    have HO28:=zk ho
    replace HI0:=zk (IsS77.grown za45 hg (IsS77.own_neN HI0.out HO_43003000.out (by decide)))
    clear HO_43003000
    clear HO19
    clear HO22
    clear ho hb hg hat
    obtain ⟨Ao23,co23,eo23⟩:=Kd.N_slice HO28.out
    ((subst eo23))
    refine hK.out _ _ ((blk_cell BK2.out 0).trans rfl) (fun hHeld=>?_)
    clear hK K
    refine zno (some 28) ?_
    refine zy 7 (some 29) HT_.out ?_
    refine last_ (i:=8) (N:=none) #[true,true,true,true,true,true,true,true,true] rfl rfl (one_of HT_.out (by kernel_rfl)) (by decide) (fun K hK=>?_)
    have hs24:w20.cell? ⟨gb2,0,none⟩=some (u43003000):=(blk_cell BK2.out 0).trans rfl
    have hfs24:=blk_frozen BK2.out 0
    have hns24_0:=NB1_2.out
    have hms24_0:=NB2_1.out
    refine skip_ (w1:=?_) (by rfl) rfl ?_ ?_
    rotate_left
    ·go_simp
     rfl
    refine hK.out _ _ ?_
    clear hK K
    refine done_ (done_of HT_.out (by kernel_rfl)) ?_
    try go_wp2
    go_roundg k1
    case measure=>have:=HK1.out;omega
    case rel=>exact ⟨(wrap64 (x8_1+1)),(t24),(t25),(y43026),(.slice Ao23 y43026.length co23),(by (rfl)),H',⟨za43⟩,⟨by (with_reducible repeat ((apply Kd.N_drewN)));exact Kd.N_mono (zfN (Kd.N_mono HO28.out (fun k_ hk=>(⟨hk,hk.2.2.1⟩:_∧k_ ≠ gb2)))) (fun _ hk=>⟨hk.1.1,⟨hk.1.2.1,⟨hk.1.2.2.1,hk.1.2.2.2⟩⟩⟩)⟩,⟨zpw BK1.out⟩,⟨zpu BK2.out⟩,⟨za45⟩,⟨za41⟩,⟨za52⟩⟩
   ·rw [if_neg c17] at H
    exact absurd H (by simp)
   ·rw [if_neg c15] at H
    have c15b0:=zdnl c15
    have c15w:decide (x8_1 < (IntKind.i64.wrap (1+t9)))=false:=by simp only [i64_w];exact c15b0
    clear c15
    simp only [Option.some.injEq,Prod.mk.injEq] at H
    obtain ⟨rfl,rfl,rfl⟩:=H
    have hnb25:=NB2_1.out
    have hnc25:=NB1_2.out
    have hnb26:=NB2_0.out
    have hnc26:=NB0_2.out
    obtain ⟨hcz27_0,hfz27_0⟩:=blk1 BK2.out
    obtain ⟨Ao28,co28,eo28⟩:=Kd.N_slice HO_43003000.out
    subst eo28
    have hnb29:=NB1_0.out
    have hnc29:=NB0_1.out
    obtain ⟨hcz30_0,hfz30_0⟩:=blk1 BK1.out
    go_wp2
    refine bodyPost_ret (results_cell_row rfl _ _ gb1 26 #[.slice Ao28 x43003000_1.length co28] (0,0) _ rfl (zpu BK1.out) Tryz.underlying26 rfl (by kernel_rfl)) rfl ?_
    exact ⟨_,by (rfl),by (with_reducible repeat ((apply Kd.N_drewN)));exact Kd.N_mono (zfN (Kd.N_mono HO_43003000.out (fun k_ hk=>(⟨hk,hk.2.1⟩:_∧k_ ≠ gb1)))) (fun _ hk=>hk.1.1),za45,za52,za41⟩
def spec_l10Bent.l0:Nat→List Int→Int→Int→List (S56)→Option ((List (S56)) × Int × Int)
 | 0,_,_,_,_=>none
 | k+1,x1000,x1001,x1002,x33008000=>if (x33008000.length:Int) < 7 then ((spec_l9Draw.f k x1000 x1001 x1002 (⟨#[88]⟩:ByteArray)).bind fun bt33026=>(if x33008000.length < 1172812402961 then (spec_l10Bent.l0 k x1000 bt33026.2.2.2.2.2.2.2.2.1 bt33026.2.2.2.2.2.2.2.2.2 (x33008000 ++ [(⟨bt33026.1,bt33026.2.1,bt33026.2.2.1,(⟨bt33026.2.2.2.1,bt33026.2.2.2.2.1,bt33026.2.2.2.2.2.1⟩:S54),bt33026.2.2.2.2.2.2.1,bt33026.2.2.2.2.2.2.2.1⟩:S56)])) else (none))) else (some (x33008000,x1001,x1002))
def spec_l10Bent.f (k:Nat) (s0_0:List Int) (s0_1:Int) (s0_2:Int):Option ((List (S56)) × Int × Int):=(spec_l10Draw.f k s0_0 s0_1 s0_2 3).bind fun bt33002=>((spec_l1Below.f s0_0 bt33002.2.1 bt33002.2.2 12).bind fun bt33008=>(if bt33008.1=0 then ((spec_l9Bent.f k s0_0 bt33008.2.1 bt33008.2.2).bind fun bt33011=>(if 0 < (bt33002.1.length:Int) then (some ((bt33002.1.set (0:Int).toNat (⟨bt33011.1,bt33011.2.1,bt33011.2.2.1,(⟨bt33011.2.2.2.1,bt33011.2.2.2.2.1,bt33011.2.2.2.2.2.1⟩:S54),bt33011.2.2.2.2.2.2.1,bt33011.2.2.2.2.2.2.2.1⟩:S56)),bt33011.2.2.2.2.2.2.2.2.1,bt33011.2.2.2.2.2.2.2.2.2)) else (none))) else (if bt33008.1=1 then (spec_l10Bent.l0 k s0_0 bt33008.2.1 bt33008.2.2 bt33002.1) else (some (bt33002.1,bt33008.2.1,bt33008.2.2)))))
def spec_l10Bent.T7:Bool × List (List Nat × List Nat):=(true,[([],[]),([0],[0]),([],[]),([2],[2]),([3],[3]),([1,4,3],[1,4]),([0,1,2,3,4,5],[]),([6,5,5,0,1,2,3,4,5],[5,6])])
def spec_l10Bent.B7:List Nat:=[0,1,0,4,12,31,63,127]
theorem spec_l10Bent.tab7:rtab .any (opsOf Tryz.f33 7)=spec_l10Bent.T7:=by kernel_rfl
theorem spec_l10Bent.bits7:waitsOk spec_l10Bent.T7.2 spec_l10Bent.B7=true:=by kernel_rfl
theorem spec_l10Bent.calls (k:Nat) (g:Nat) (s0_0:List Int) (s0_1:Int) (s0_2:Int) (r1:List (S56)) (r2:Int) (r3:Int) (w0 w:World) (hI:IsS77 w0 w g s0_0 s0_1 s0_2) (hB:Below w0.heap.size w0 w) (h:spec_l10Bent.f k s0_0 s0_1 s0_2=some (r1,r2,r3)) :
  Calls Tryz.prog 33 #[.pointer (some ⟨g,0,none⟩)] w fun e w'=>∃ v0_:Value,e = .returned (.agg #[v0_])∧Kd.N k56 56 w' w.heap.size (fun k_=>(w.heap.size≤k_)) v0_ r1∧IsS77 w0 w' g s0_0 r2 r3∧Below w0.heap.size w0 w'∧KeepBut w w' g none:=by
 have hu26:=Tryz.underlying26
 have hu56:=Tryz.underlying56
 have HI0:=zk hI
 have HK:=zk (KeepBut.refl w g none)
 have HL:=zk hB.size
 clear hI
 have HW0:=zk hB.size
 have HB:=zk hB
 clear hB
 have H:=h
 unfold spec_l10Bent.f at H
 clear h
 obtain ⟨⟨t2,t5,t6⟩,A2,H⟩:=zO H
 try dsimp only at H
 obtain ⟨⟨t8,t9,t10⟩,A3,H⟩:=zO H
 try dsimp only at H
 by_cases c4:t8=0
 ·rw [if_pos c4] at H
  have c4b0:=zbt c4
  have c4b1:=zqn c4
  clear c4
  obtain ⟨⟨t11,t12,t13,t14,t15,t16,t19,t22,t23,t24⟩,A5,H⟩:=zO H
  try dsimp only at H
  by_cases c6:0 < (t2.length:Int)
  ·rw [if_pos c6] at H
   have c6b0:=zdl c6
   have c6b1:decide (0 < t2.length)=true:=decide_eq_true (by omega)
   clear c6
   obtain ⟨y33025,hy33025⟩:∃ y_:List (S56),y_=(t2.set (0:Int).toNat (⟨t11,t12,t13,(⟨t14,t15,t16⟩:S54),t19,t22⟩:S56)):=⟨_,rfl⟩
   replace H:(some (y33025,t23,t24))=some (r1,r2,r3):=by ((rw [hy33025];with_reducible exact H))
   have Ny25:=zk hy33025
   clear hy33025
   simp only [Option.some.injEq,Prod.mk.injEq] at H
   obtain ⟨rfl,rfl,rfl⟩:=H
   go_enter Tryz.func33,Tryz.ntmps33
   try go_wp2_with (first|((with_reducible refine gate_dst (N:=2) rfl ?_);refine zE (cs:=#[.slice none 0 0]) (t:=26) ?_;intro gb1 hg w8 hbox hb;replace HB:=yB HB hb;have BK1:=zk hbox;have GW1:=zk ((by rw [hg];exact (keep_size (w:=w) (g:=g) (row:=none) za16):w.heap.size≤gb1));have GE1:=zk ((Nat.le_trans HW0.out (by rw [hg];exact (keep_size (w:=w) (g:=g) (row:=none) za16):w.heap.size≤gb1):w0.heap.size≤gb1));have NB0_1:=zk (zm hg (IsS77.lt (show IsS77 w0 _ g s0_0 s0_1 s0_2 from za27)));have NB1_0:=zk (zM hg (IsS77.lt (show IsS77 w0 _ g s0_0 s0_1 s0_2 from za27)));replace HI0:=zk (IsS77.below za27 hb);replace HK:=yk HK hb;clear hb hbox hg)|((with_reducible refine gate_callee (f:=43) rfl ?_);refine zg (some 5) Tryz.func43 #[.pointer (some ⟨g,0,none⟩),.int .i64 3] rfl za11 ?_;(with_reducible refine (spec_l10Draw.calls k g s0_0 s0_1 s0_2 3 t2 t5 t6 w0 _ za27 za22 A2.out).mono ?_);rintro e w9 ⟨v3,rfl,ho0,hi,hb,hk⟩;refine ⟨_,rfl,?_⟩;have HO4:=zk (Kd.N_lower (Kd.N_mono (ok':=fun k_=>(w.heap.size≤k_)∧k_ ≠ gb1∧k_ ≠ g) ho0 (fun k_ hk_=>⟨(Nat.le_trans (keep_size (w:=w) (g:=g) (row:=none) za16) hk_),(zF BK1.out k_ hk_),(IsS77.fresh za27 k_ hk_)⟩)) (keep_size (w:=w) (g:=g) (row:=none) za16));replace HB:=zk hb;replace BK1:=yq hk BK1 NB1_0;replace HK:=yK HK hk;replace HI0:=zk hi;(try clear hb hk hi ho0))|((with_reducible refine gate_dst (N:=3) rfl ?_);refine zE (cs:=#[.slice none 0 0]) (t:=26) ?_;intro gb33007 hg w10 hbox hb;replace HO4:=zk (Kd.N_below (Kd.N_elderB (za6 HO4.out) gb33007 (Nat.le_of_eq hg.symm)) hb);replace HB:=yB HB hb;have BK7:=zk hbox;have GW7:=zk ((by rw [hg];exact (keep_size (w:=w) (g:=g) (row:=none) za16):w.heap.size≤gb33007));have GE7:=zk ((Nat.le_trans HW0.out (by rw [hg];exact (keep_size (w:=w) (g:=g) (row:=none) za16):w.heap.size≤gb33007):w0.heap.size≤gb33007));have NB1_7:=yn hg BK1;have NB7_1:=yp hg BK1;have NB0_7:=zk (zm hg (IsS77.lt (show IsS77 w0 _ g s0_0 t5 t6 from za27)));have NB7_0:=zk (zM hg (IsS77.lt (show IsS77 w0 _ g s0_0 t5 t6 from za27)));replace HI0:=zk (IsS77.below za27 hb);replace BK1:=yb BK1 hb;replace HK:=yk HK hb;clear hb hbox hg;obtain ⟨Ao11,co11,eo11⟩:=Kd.N_slice HO4.out;subst eo11;have hnb12:=NB7_1.out;have hnc12:=NB1_7.out;have hnb13:=NB7_0.out;have hnc13:=NB0_7.out;have hcz14_0:w10.cell? ⟨gb33007,0,none⟩=some (.slice none 0 0):=(blk_cell BK7.out 0).trans rfl;have hfz14_0:=blk_frozen BK7.out 0)|((with_reducible refine gate_callee (f:=42) rfl ?_);refine zg (some 7) Tryz.func42 #[.pointer (some ⟨g,0,none⟩),.int .i64 12] rfl za11 ?_;(with_reducible refine (spec_l1Below.calls g s0_0 t5 t6 12 t8 t9 t10 w0 _ za42 za47 A3.out).mono ?_);rintro e w15 ⟨rfl,hi,hb,hk⟩;refine ⟨_,rfl,?_⟩;replace BK1:=zk (KeepBut.blk hk (g':=gb1) (o:=.cells #[.slice none 0 0] 26 (0,0)) (zpw BK1.out) NB1_0.out (by simp));replace HO4:=zk (Kd.N_mono (Kd.N_keep (Kd.N_mono (ok:=fun k_=>((((w.heap.size≤k_))∧(k_ ≠ gb1∧k_ ≠ g))∧k_ ≠ gb33007)) za72 (fun k_ hk_=>(⟨hk_,hk_.1.2.2⟩:_∧k_ ≠ g))) hk (fun _ h=>h.2)) (fun _ h=>h.1));replace BK7:=zk (KeepBut.blk hk (g':=gb33007) (o:=.cells #[.slice Ao11 t2.length co11] 26 (0,0)) (zpu BK7.out) NB7_0.out (by simp));replace HK:=yK HK hk;replace HB:=zk hb;replace HI0:=zk hi;(try clear hb hk hi)))
   replace HO4:=zk (Kd.N_drew HO4.out)
   replace BK1:=zk (blk_drew BK1.out)
   replace BK7:=zk (blk_drew BK7.out)
   replace HI0:=zk (IsS77.drew HI0.out)
   replace HK:=zk (keep_drew HK.out)
   replace HB:=zk (below_drew1 HB.out)
   refine start_ (n:=6) (S:=fun w'=>w'.cell? ⟨gb33007,0,none⟩=some (.slice Ao11 t2.length co11)) (ds:=[5]) #[false,false,false,false,false,false] (by kernel_rfl) rfl rfl ((blk_cell BK7.out 0).trans rfl) (fun hHeld=>?_)
   generalize w15.drew=w16 at HO4 BK1 BK7 HI0 HK HB hHeld ⊢
   refine zyk 0 (some 10) ?_
   refine zyk 2 (some 12) ?_
   refine ztkk 1 (some 11) hHeld ?_
   refine one_ (i:=3) (N:=some 13) #[true,true,true,true,false,false] rfl rfl (by kernel_rfl) (by decide) (fun K hK=>?_)
   refine goes_ Tryz.func60 (by kernel_rfl) rfl #[.pointer (some ⟨g,0,none⟩)] (by rfl) rfl rfl za11 ?_
   with_reducible refine (spec_l9Bent.calls k g s0_0 t9 t10 t11 t12 t13 t14 t15 t16 t19 t22 t23 t24 w0 _ za42 za47 A5.out).mono ?_
   rintro e w17 ⟨v17,v20,rfl,ho0,ho1,hi,hb,hk⟩
   refine ⟨_,rfl,?_⟩
   have HO18:=zk (Kd.N_lower (Kd.N_mono (ok':=fun k_=>(w.heap.size≤k_)∧some k_ ≠ (v20:Value).ownBlock∧some k_ ≠ (.slice Ao11 t2.length co11:Value).ownBlock∧k_ ≠ gb1∧k_ ≠ gb33007∧k_ ≠ g) ho0 (fun k_ hk_=>⟨(Nat.le_trans (keep_size (w:=w) (g:=g) (row:=none) za32) hk_.1),hk_.2,(Kd.fresh' (Kd.N_lt (za6 HO4.out)) k_ hk_.1),(zF BK1.out k_ hk_.1),(zF BK7.out k_ hk_.1),(IsS77.fresh za42 k_ hk_.1)⟩)) (keep_size (w:=w) (g:=g) (row:=none) za32))
   have HO21:=zk (Kd.R_lower (Kd.R_newM (M:=fun k_=>(w.heap.size≤k_)) (Kd.R_mono (ok':=fun k_=>True) ho1 (fun _ hk_=>trivial)) (keep_size (w:=w) (g:=g) (row:=none) za32) (fun k_ h_=>h_)) (keep_size (w:=w) (g:=g) (row:=none) za32))
   replace HB:=zk hb
   replace BK1:=yq hk BK1 NB1_0
   replace HO4:=zk (Kd.N_mono (Kd.N_told (Kd.N_told (Kd.N_oldK (Kd.N_mono (ok:=fun k_=>((((w.heap.size≤k_))∧(k_ ≠ gb1∧k_ ≠ g))∧k_ ≠ gb33007)) (za6 HO4.out) (fun k_ hk_=>(⟨hk_,hk_.1.2.2⟩:_∧k_ ≠ g))) hk) (Kd.N_base ho0)) (Kd.R_base ho1)) (fun _ h_=>h_.1))
   replace BK7:=yq hk BK7 NB7_0
   replace HK:=yK HK hk
   replace HI0:=zk hi
   (try clear hb)
   (try clear hb2)
   (try clear hk)
   (try clear hi)
   (try clear ho0)
   (try clear ho1)
   have p7:0≤(0:Int):=(by omega)
   have q7:(0:Int) < ((t2.length:Int):Int):=of_decide_eq_true za25
   have qi7:(0 < t2.length)=True:=eq_true (by omega)
   obtain ⟨go7,co7,eo7,gb7,gl7,cl7,HG7⟩:=Kd.N_form HO4.out (by omega)
   ((cases eo7))
   have GB7:=zk gb7
   have GG7:=zk HG7
   clear gb7 gl7 HG7
   obtain ⟨ce7,hcl7,hM7,hcc7,hfr7⟩:=Kd.N_elem HO4.out z56 (0:Int) p7 q7
   obtain ⟨ua7_5,uc7_5,ua7_6,uc7_6,rfl,ul7_5,ge7_5,ul7_6,ge7_6⟩:=k56_openF hM7
   have hx7_0:World.cell? _ ⟨go7,(0:Int).toNat * 8,none⟩=some (.int .i64 ((rd_T56 t2 0).f0)):=hcc7 0 _ rfl
   have hx7_1:World.cell? _ ⟨go7,(0:Int).toNat * 8+1,none⟩=some (.string ((rd_T56 t2 0).f1)):=hcc7 1 _ rfl
   have hx7_2:World.cell? _ ⟨go7,(0:Int).toNat * 8+2,none⟩=some (.string ((rd_T56 t2 0).f2)):=hcc7 2 _ rfl
   have hx7_3:World.cell? _ ⟨go7,(0:Int).toNat * 8+3,none⟩=some (.int .i64 ((rd_T56 t2 0).f3.f0)):=hcc7 3 _ rfl
   have hx7_4:World.cell? _ ⟨go7,(0:Int).toNat * 8+4,none⟩=some (.string ((rd_T56 t2 0).f3.f1)):=hcc7 4 _ rfl
   have hx7_5:World.cell? _ ⟨go7,(0:Int).toNat * 8+5,none⟩=some (.slice ua7_5 ((rd_T56 t2 0).f3.f2).length uc7_5):=hcc7 5 _ rfl
   have hx7_6:World.cell? _ ⟨go7,(0:Int).toNat * 8+6,none⟩=some (.slice ua7_6 ((rd_T56 t2 0).f4).length uc7_6):=hcc7 6 _ rfl
   have hx7_7:World.cell? _ ⟨go7,(0:Int).toNat * 8+7,none⟩=some (.int .i64 ((rd_T56 t2 0).f5)):=hcc7 7 _ rfl
   have hf7_0:World.frozen? _ ⟨go7,(0:Int).toNat * 8,none⟩=false:=hfr7 0
   have hf7_1:World.frozen? _ ⟨go7,(0:Int).toNat * 8+1,none⟩=false:=hfr7 1
   have hf7_2:World.frozen? _ ⟨go7,(0:Int).toNat * 8+2,none⟩=false:=hfr7 2
   have hf7_3:World.frozen? _ ⟨go7,(0:Int).toNat * 8+3,none⟩=false:=hfr7 3
   have hf7_4:World.frozen? _ ⟨go7,(0:Int).toNat * 8+4,none⟩=false:=hfr7 4
   have hf7_5:World.frozen? _ ⟨go7,(0:Int).toNat * 8+5,none⟩=false:=hfr7 5
   have hf7_6:World.frozen? _ ⟨go7,(0:Int).toNat * 8+6,none⟩=false:=hfr7 6
   have hf7_7:World.frozen? _ ⟨go7,(0:Int).toNat * 8+7,none⟩=false:=hfr7 7
   clear hcl7 hcc7 hfr7;(try clear hM7)
   (try rw [show ((0:Int)).toNat=0 from rfl] at hx7_0)
   (try simp only [Nat.reduceMul,Nat.zero_mul,Nat.zero_add,Nat.reduceAdd] at hx7_0)
   (try rw [show ((0:Int)).toNat=0 from rfl] at hf7_0)
   (try simp only [Nat.reduceMul,Nat.zero_mul,Nat.zero_add,Nat.reduceAdd] at hf7_0)
   (try rw [show ((0:Int)).toNat=0 from rfl] at hx7_1)
   (try simp only [Nat.reduceMul,Nat.zero_mul,Nat.zero_add,Nat.reduceAdd] at hx7_1)
   (try rw [show ((0:Int)).toNat=0 from rfl] at hf7_1)
   (try simp only [Nat.reduceMul,Nat.zero_mul,Nat.zero_add,Nat.reduceAdd] at hf7_1)
   (try rw [show ((0:Int)).toNat=0 from rfl] at hx7_2)
   (try simp only [Nat.reduceMul,Nat.zero_mul,Nat.zero_add,Nat.reduceAdd] at hx7_2)
   (try rw [show ((0:Int)).toNat=0 from rfl] at hf7_2)
   (try simp only [Nat.reduceMul,Nat.zero_mul,Nat.zero_add,Nat.reduceAdd] at hf7_2)
   (try rw [show ((0:Int)).toNat=0 from rfl] at hx7_3)
   (try simp only [Nat.reduceMul,Nat.zero_mul,Nat.zero_add,Nat.reduceAdd] at hx7_3)
   (try rw [show ((0:Int)).toNat=0 from rfl] at hf7_3)
   (try simp only [Nat.reduceMul,Nat.zero_mul,Nat.zero_add,Nat.reduceAdd] at hf7_3)
   (try rw [show ((0:Int)).toNat=0 from rfl] at hx7_4)
   (try simp only [Nat.reduceMul,Nat.zero_mul,Nat.zero_add,Nat.reduceAdd] at hx7_4)
   (try rw [show ((0:Int)).toNat=0 from rfl] at hf7_4)
   (try simp only [Nat.reduceMul,Nat.zero_mul,Nat.zero_add,Nat.reduceAdd] at hf7_4)
   (try rw [show ((0:Int)).toNat=0 from rfl] at hx7_5)
   (try simp only [Nat.reduceMul,Nat.zero_mul,Nat.zero_add,Nat.reduceAdd] at hx7_5)
   (try rw [show ((0:Int)).toNat=0 from rfl] at hf7_5)
   (try simp only [Nat.reduceMul,Nat.zero_mul,Nat.zero_add,Nat.reduceAdd] at hf7_5)
   (try rw [show ((0:Int)).toNat=0 from rfl] at hx7_6)
   (try simp only [Nat.reduceMul,Nat.zero_mul,Nat.zero_add,Nat.reduceAdd] at hx7_6)
   (try rw [show ((0:Int)).toNat=0 from rfl] at hf7_6)
   (try simp only [Nat.reduceMul,Nat.zero_mul,Nat.zero_add,Nat.reduceAdd] at hf7_6)
   (try rw [show ((0:Int)).toNat=0 from rfl] at hx7_7)
   (try simp only [Nat.reduceMul,Nat.zero_mul,Nat.zero_add,Nat.reduceAdd] at hx7_7)
   (try rw [show ((0:Int)).toNat=0 from rfl] at hf7_7)
   (try simp only [Nat.reduceMul,Nat.zero_mul,Nat.zero_add,Nat.reduceAdd] at hf7_7)
   replace p7:=eq_true p7
   replace q7:=eq_true q7
   have HN0_go7:=zk (show g ≠ go7 from by have h_:=IsS77.own_neN HI0.out HO4.out (by decide);intro e_;exact h_ (by rw [e_];rfl))
   have HX18:=zk (show Kd.N k56 56 _ w.heap.size (fun k_=>(w.heap.size≤k_)∧some k_ ≠ (v17:Value).ownBlock∧some k_ ≠ (v20:Value).ownBlock∧k_ ≠ gb1∧k_ ≠ gb33007∧k_ ≠ g) (.slice (some ⟨go7,0,none⟩) t2.length co11) t2 from (Kd.N_mono (HO4.out) (fun k_ hk=>⟨hk.1.1.1.1,⟨hk.1.2,⟨hk.2,⟨hk.1.1.1.2.1,⟨hk.1.1.2,hk.1.1.1.2.2⟩⟩⟩⟩⟩)))
   replace HX18:=zk (show Kd.N k56 56 _ w.heap.size (fun k_=>(w.heap.size≤k_)∧k_ ≠ gb1∧k_ ≠ gb33007∧k_ ≠ g) (.slice (some ⟨go7,0,none⟩) t2.length co11) t2 from Kd.N_mono HX18.out (fun k_ hk=>⟨hk.1,⟨hk.2.2.2.1,⟨hk.2.2.2.2.1,hk.2.2.2.2.2⟩⟩⟩))
   obtain ⟨ce18,hcl18,hM18,hcc18,hfr18⟩:=Kd.N_elem HX18.out z56 (0:Int) (by omega) (by have h_:(0:Int) < ((t2.length:Int):Int):=of_decide_eq_true za25;(exact h_))
   obtain ⟨ua18_5,uc18_5,ua18_6,uc18_6,rfl,ul18_5,ge18_5,ul18_6,ge18_6⟩:=k56_openF hM18
   obtain ⟨sA0_,sc0_,se0_⟩:=Kd.N_slice HO18.out
   subst se0_
   obtain ⟨sA1_,sc1_,se1_⟩:=Kd.R_slice HO21.out
   subst se1_
   have HP18:=(Kd.N_seg HX18.out (0:Int) (by omega) (by have h_:(0:Int) < ((t2.length:Int):Int):=of_decide_eq_true za25;(exact h_)) (seg:=[.int .i64 t11,.string t12,.string t13,.int .i64 t14,.string t15,(Value.slice sA0_ t16.length sc0_),(Value.slice sA1_ t19.length sc1_),.int .i64 t22]) (j:=0) hcl18 hcc18 (show 8≤8 from by decide) (x':=(⟨t11,t12,t13,(⟨t14,t15,t16⟩:S54),t19,t22⟩:S56)) (k56_mkF _ _ (⟨t11,t12,t13,(⟨t14,t15,t16⟩:S54),t19,t22⟩:S56) (Kd.N_reads' (Kd.N_mono (ok':=(fun k_=>((fun k_=>(w.heap.size≤k_)∧k_ ≠ gb1∧k_ ≠ gb33007∧k_ ≠ g)) k_∧k_ ≠ go7)) (HO18.out) (fun k_ hk=>⟨⟨hk.1,⟨hk.2.2.2.1,⟨hk.2.2.2.2.1,hk.2.2.2.2.2⟩⟩⟩,fun e_=>(hk.2.2.1) (by rw [e_];rfl)⟩))).2.1 (Kd.N_F (Kd.N_mono (ok':=(fun k_=>((fun k_=>(w.heap.size≤k_)∧k_ ≠ gb1∧k_ ≠ gb33007∧k_ ≠ g)) k_∧k_ ≠ go7)) (HO18.out) (fun k_ hk=>⟨⟨hk.1,⟨hk.2.2.2.1,⟨hk.2.2.2.2.1,hk.2.2.2.2.2⟩⟩⟩,fun e_=>(hk.2.2.1) (by rw [e_];rfl)⟩))) (Kd.R_reads' (Kd.R_mono (ok':=(fun k_=>((fun k_=>(w.heap.size≤k_)∧k_ ≠ gb1∧k_ ≠ gb33007∧k_ ≠ g)) k_∧k_ ≠ go7)) (IsS77.apart HI0.out (Kd.R_types (Kd.R_types (Kd.R_apart' (HO21.out) (Kd.N_typed HO4.out) (by decide)) BK1.out (by decide)) BK7.out (by decide)) (by decide)) (fun k_ hk=>⟨⟨hk.1.1.1.1.1,⟨hk.1.1.2,⟨hk.1.2,hk.2⟩⟩⟩,fun e_=>(hk.1.1.1.2) (by rw [e_];rfl)⟩))).2.1 (Kd.R_F (Kd.R_mono (ok':=(fun k_=>((fun k_=>(w.heap.size≤k_)∧k_ ≠ gb1∧k_ ≠ gb33007∧k_ ≠ g)) k_∧k_ ≠ go7)) (IsS77.apart HI0.out (Kd.R_types (Kd.R_types (Kd.R_apart' (HO21.out) (Kd.N_typed HO4.out) (by decide)) BK1.out (by decide)) BK7.out (by decide)) (by decide)) (fun k_ hk=>⟨⟨hk.1.1.1.1.1,⟨hk.1.1.2,⟨hk.1.2,hk.2⟩⟩⟩,fun e_=>(hk.1.1.1.2) (by rw [e_];rfl)⟩)))) (fun _ hk=>hk)).1
   rw [← Ny25.out] at HP18
   have HQ18:=zk HP18
   clear hcl18 hcc18 hfr18 HP18;(try clear hM18)
   refine hK.out _ _ ((blk_cell BK7.out 0).trans rfl) (fun hHeld=>?_)
   clear hK K
   refine zno (some 13) ?_
   refine zyk 4 (some 14) ?_
   refine last_ (i:=5) (N:=none) #[true,true,true,true,true,true] rfl rfl (by kernel_rfl) (by decide) (fun K hK=>?_)
   refine skip_ (w1:=?_) (by rfl) rfl ?_ ?_
   rotate_left
   ·go_simp
    rfl
   refine hK.out _ _ ?_
   clear hK K
   refine done_ (by kernel_rfl) ?_
   have n0_:Aside0 (Kd.N k56 56 ((((((((w17.setCell ⟨go7,0,none⟩ (.int .i64 t11)).setCell ⟨go7,1,none⟩ (.string t12)).setCell ⟨go7,2,none⟩ (.string t13)).setCell ⟨go7,3,none⟩ (.int .i64 t14)).setCell ⟨go7,4,none⟩ (.string t15)).setCell ⟨go7,5,none⟩ ((Value.slice sA0_ t16.length sc0_))).setCell ⟨go7,6,none⟩ ((Value.slice sA1_ t19.length sc1_))).setCell ⟨go7,7,none⟩ (.int .i64 t22)) w.heap.size (fun k_=>(w.heap.size≤k_)∧k_ ≠ gb1∧k_ ≠ g∧k_ ≠ gb33007) (.slice (some ⟨go7,0,none⟩) t2.length co11) y33025):=⟨by (with_reducible repeat ((apply Kd.N_drewN)));exact Kd.N_mono HQ18.out (fun _ hk=>⟨hk.1,⟨hk.2.1,⟨hk.2.2.2,hk.2.2.1⟩⟩⟩)⟩
   have n1_:Aside0 (((((((((w17.setCell ⟨go7,0,none⟩ (.int .i64 t11)).setCell ⟨go7,1,none⟩ (.string t12)).setCell ⟨go7,2,none⟩ (.string t13)).setCell ⟨go7,3,none⟩ (.int .i64 t14)).setCell ⟨go7,4,none⟩ (.string t15)).setCell ⟨go7,5,none⟩ ((Value.slice sA0_ t16.length sc0_))).setCell ⟨go7,6,none⟩ ((Value.slice sA1_ t19.length sc1_))).setCell ⟨go7,7,none⟩ (.int .i64 t22)).heap[gb1]? = some (.cells #[.slice none 0 0] 26 (0,0))):=⟨by (with_reducible repeat ((refine blk_drewN ?_ _)));refine blk_far ?_ za57 _;(with_reducible repeat ((refine blk_drewN ?_ _)));refine blk_far ?_ za57 _;(with_reducible repeat ((refine blk_drewN ?_ _)));refine blk_far ?_ za57 _;(with_reducible repeat ((refine blk_drewN ?_ _)));refine blk_far ?_ za57 _;(with_reducible repeat ((refine blk_drewN ?_ _)));refine blk_far ?_ za57 _;(with_reducible repeat ((refine blk_drewN ?_ _)));refine blk_far ?_ za57 _;(with_reducible repeat ((refine blk_drewN ?_ _)));refine blk_far ?_ za57 _;(with_reducible repeat ((refine blk_drewN ?_ _)));refine blk_far ?_ za57 _;(with_reducible repeat ((refine blk_drewN ?_ _)));exact BK1.out⟩
   have n2_:Aside0 (((((((((w17.setCell ⟨go7,0,none⟩ (.int .i64 t11)).setCell ⟨go7,1,none⟩ (.string t12)).setCell ⟨go7,2,none⟩ (.string t13)).setCell ⟨go7,3,none⟩ (.int .i64 t14)).setCell ⟨go7,4,none⟩ (.string t15)).setCell ⟨go7,5,none⟩ ((Value.slice sA0_ t16.length sc0_))).setCell ⟨go7,6,none⟩ ((Value.slice sA1_ t19.length sc1_))).setCell ⟨go7,7,none⟩ (.int .i64 t22)).heap[gb33007]? = some (.cells #[.slice (some ⟨go7,0,none⟩) t2.length co11] 26 (0,0))):=⟨by (with_reducible repeat ((refine blk_drewN ?_ _)));refine blk_far ?_ za56 _;(with_reducible repeat ((refine blk_drewN ?_ _)));refine blk_far ?_ za56 _;(with_reducible repeat ((refine blk_drewN ?_ _)));refine blk_far ?_ za56 _;(with_reducible repeat ((refine blk_drewN ?_ _)));refine blk_far ?_ za56 _;(with_reducible repeat ((refine blk_drewN ?_ _)));refine blk_far ?_ za56 _;(with_reducible repeat ((refine blk_drewN ?_ _)));refine blk_far ?_ za56 _;(with_reducible repeat ((refine blk_drewN ?_ _)));refine blk_far ?_ za56 _;(with_reducible repeat ((refine blk_drewN ?_ _)));refine blk_far ?_ za56 _;(with_reducible repeat ((refine blk_drewN ?_ _)));exact BK7.out⟩
   have n3_:Aside0 (IsS77 w0 ((((((((w17.setCell ⟨go7,0,none⟩ (.int .i64 t11)).setCell ⟨go7,1,none⟩ (.string t12)).setCell ⟨go7,2,none⟩ (.string t13)).setCell ⟨go7,3,none⟩ (.int .i64 t14)).setCell ⟨go7,4,none⟩ (.string t15)).setCell ⟨go7,5,none⟩ ((Value.slice sA0_ t16.length sc0_))).setCell ⟨go7,6,none⟩ ((Value.slice sA1_ t19.length sc1_))).setCell ⟨go7,7,none⟩ (.int .i64 t22)) g s0_0 t23 t24):=⟨by repeat (((with_reducible first|exact HI0.out|refine IsS77.far ?_ HN0_go7.out _)))⟩
   have n4_:Aside0 (KeepBut w ((((((((w17.setCell ⟨go7,0,none⟩ (.int .i64 t11)).setCell ⟨go7,1,none⟩ (.string t12)).setCell ⟨go7,2,none⟩ (.string t13)).setCell ⟨go7,3,none⟩ (.int .i64 t14)).setCell ⟨go7,4,none⟩ (.string t15)).setCell ⟨go7,5,none⟩ ((Value.slice sA0_ t16.length sc0_))).setCell ⟨go7,6,none⟩ ((Value.slice sA1_ t19.length sc1_))).setCell ⟨go7,7,none⟩ (.int .i64 t22)) g none):=⟨by repeat (((with_reducible first|exact HK.out|refine keep_far ?_ GB7.out _)))⟩
   have n5_:Aside0 (Below w0.heap.size w0 ((((((((w17.setCell ⟨go7,0,none⟩ (.int .i64 t11)).setCell ⟨go7,1,none⟩ (.string t12)).setCell ⟨go7,2,none⟩ (.string t13)).setCell ⟨go7,3,none⟩ (.int .i64 t14)).setCell ⟨go7,4,none⟩ (.string t15)).setCell ⟨go7,5,none⟩ ((Value.slice sA0_ t16.length sc0_))).setCell ⟨go7,6,none⟩ ((Value.slice sA1_ t19.length sc1_))).setCell ⟨go7,7,none⟩ (.int .i64 t22))):=⟨by repeat (((with_reducible first|exact HB.out|refine below_set ?_ (Nat.le_trans HL.out GB7.out))))⟩
   (try clear HO4)
   (try clear BK1)
   (try clear BK7)
   (try clear HI0)
   (try clear HK)
   (try clear HB)
   generalize ((((((((w17.setCell ⟨go7,0,none⟩ (.int .i64 t11)).setCell ⟨go7,1,none⟩ (.string t12)).setCell ⟨go7,2,none⟩ (.string t13)).setCell ⟨go7,3,none⟩ (.int .i64 t14)).setCell ⟨go7,4,none⟩ (.string t15)).setCell ⟨go7,5,none⟩ ((Value.slice sA0_ t16.length sc0_))).setCell ⟨go7,6,none⟩ ((Value.slice sA1_ t19.length sc1_))).setCell ⟨go7,7,none⟩ (.int .i64 t22))=w19 at n0_ n1_ n2_ n3_ n4_ n5_ ⊢
   have HO4:=n0_
   have BK1:=n1_
   have BK7:=n2_
   have HI0:=n3_
   have HK:=n4_
   have HB:=n5_
   clear n0_ n1_ n2_ n3_ n4_ n5_
   have hcz20_0:w19.cell? ⟨gb33007,0,none⟩=some (.slice (some ⟨go7,0,none⟩) t2.length co11):=(blk_cell BK7.out 0).trans rfl
   have hfz20_0:=blk_frozen BK7.out 0
   have hnb21:=NB1_0.out
   have hnc21:=NB0_1.out
   have hcz22_0:w19.cell? ⟨gb1,0,none⟩=some (.slice none 0 0):=(blk_cell BK1.out 0).trans rfl
   have hfz22_0:=blk_frozen BK1.out 0
   try go_wp2
   refine bodyPost_ret (results_cell_row rfl _ _ gb1 26 #[.slice (some ⟨go7,0,none⟩) t2.length co11] (0,0) _ rfl (zpu BK1.out) Tryz.underlying26 rfl (by kernel_rfl)) rfl ?_
   exact ⟨_,by (rfl),by (with_reducible repeat ((apply Kd.N_drewN)));exact Kd.N_mono (zfN (Kd.N_mono HO4.out (fun k_ hk=>(⟨hk,hk.2.1⟩:_∧k_ ≠ gb1)))) (fun _ hk=>hk.1.1),za42,za47,za32⟩
  ·rw [if_neg c6] at H
   exact absurd H (by simp)
 ·rw [if_neg c4] at H
  have c4b0:=zbn c4
  have c4b1:=zqt c4
  by_cases c23:t8=1
  ·rw [if_pos c23] at H
   have c23b0:=zbt c23
   have c23b1:=zqn c23
   clear c23
   have H':=zk H
   clear H
   go_enter Tryz.func33,Tryz.ntmps33
   go_wp2_with (first|((with_reducible refine gate_dst (N:=2) rfl ?_);refine zE (cs:=#[.slice none 0 0]) (t:=26) ?_;intro gb1 hg w24 hbox hb;replace HB:=yB HB hb;have BK1:=zk hbox;have GW1:=zk ((by rw [hg];exact (keep_size (w:=w) (g:=g) (row:=none) za16):w.heap.size≤gb1));have GE1:=zk ((Nat.le_trans HW0.out (by rw [hg];exact (keep_size (w:=w) (g:=g) (row:=none) za16):w.heap.size≤gb1):w0.heap.size≤gb1));have NB0_1:=zk (zm hg (IsS77.lt (show IsS77 w0 _ g s0_0 s0_1 s0_2 from za27)));have NB1_0:=zk (zM hg (IsS77.lt (show IsS77 w0 _ g s0_0 s0_1 s0_2 from za27)));replace HI0:=zk (IsS77.below za27 hb);replace HK:=yk HK hb;clear hb hbox hg)|((with_reducible refine gate_callee (f:=43) rfl ?_);refine zg (some 5) Tryz.func43 #[.pointer (some ⟨g,0,none⟩),.int .i64 3] rfl za11 ?_;(with_reducible refine (spec_l10Draw.calls k g s0_0 s0_1 s0_2 3 t2 t5 t6 w0 _ za27 za22 A2.out).mono ?_);rintro e w25 ⟨v3,rfl,ho0,hi,hb,hk⟩;refine ⟨_,rfl,?_⟩;have HO4:=zk (Kd.N_lower (Kd.N_mono (ok':=fun k_=>(w.heap.size≤k_)∧k_ ≠ gb1∧k_ ≠ g) ho0 (fun k_ hk_=>⟨(Nat.le_trans (keep_size (w:=w) (g:=g) (row:=none) za16) hk_),(zF BK1.out k_ hk_),(IsS77.fresh za27 k_ hk_)⟩)) (keep_size (w:=w) (g:=g) (row:=none) za16));replace HB:=zk hb;replace BK1:=yq hk BK1 NB1_0;replace HK:=yK HK hk;replace HI0:=zk hi;(try clear hb hk hi ho0))|((with_reducible refine gate_dst (N:=3) rfl ?_);refine zE (cs:=#[.slice none 0 0]) (t:=26) ?_;intro gb33007 hg w26 hbox hb;replace HO4:=zk (Kd.N_below (Kd.N_elderB (za6 HO4.out) gb33007 (Nat.le_of_eq hg.symm)) hb);replace HB:=yB HB hb;have BK7:=zk hbox;have GW7:=zk ((by rw [hg];exact (keep_size (w:=w) (g:=g) (row:=none) za16):w.heap.size≤gb33007));have GE7:=zk ((Nat.le_trans HW0.out (by rw [hg];exact (keep_size (w:=w) (g:=g) (row:=none) za16):w.heap.size≤gb33007):w0.heap.size≤gb33007));have NB1_7:=yn hg BK1;have NB7_1:=yp hg BK1;have NB0_7:=zk (zm hg (IsS77.lt (show IsS77 w0 _ g s0_0 t5 t6 from za27)));have NB7_0:=zk (zM hg (IsS77.lt (show IsS77 w0 _ g s0_0 t5 t6 from za27)));replace HI0:=zk (IsS77.below za27 hb);replace BK1:=yb BK1 hb;replace HK:=yk HK hb;clear hb hbox hg;obtain ⟨Ao27,co27,eo27⟩:=Kd.N_slice HO4.out;subst eo27;have hnb28:=NB7_1.out;have hnc28:=NB1_7.out;have hnb29:=NB7_0.out;have hnc29:=NB0_7.out;have hcz30_0:w26.cell? ⟨gb33007,0,none⟩=some (.slice none 0 0):=(blk_cell BK7.out 0).trans rfl;have hfz30_0:=blk_frozen BK7.out 0)|((with_reducible refine gate_callee (f:=42) rfl ?_);refine zg (some 7) Tryz.func42 #[.pointer (some ⟨g,0,none⟩),.int .i64 12] rfl za11 ?_;(with_reducible refine (spec_l1Below.calls g s0_0 t5 t6 12 t8 t9 t10 w0 _ za42 za47 A3.out).mono ?_);rintro e w31 ⟨rfl,hi,hb,hk⟩;refine ⟨_,rfl,?_⟩;replace BK1:=zk (KeepBut.blk hk (g':=gb1) (o:=.cells #[.slice none 0 0] 26 (0,0)) (zpw BK1.out) NB1_0.out (by simp));replace HO4:=zk (Kd.N_mono (Kd.N_keep (Kd.N_mono (ok:=fun k_=>((((w.heap.size≤k_))∧(k_ ≠ gb1∧k_ ≠ g))∧k_ ≠ gb33007)) za72 (fun k_ hk_=>(⟨hk_,hk_.1.2.2⟩:_∧k_ ≠ g))) hk (fun _ h=>h.2)) (fun _ h=>h.1));replace BK7:=zk (KeepBut.blk hk (g':=gb33007) (o:=.cells #[.slice Ao27 t2.length co27] 26 (0,0)) (zpu BK7.out) NB7_0.out (by simp));replace HK:=yK HK hk;replace HB:=zk hb;replace HI0:=zk hi;(try clear hb hk hi)))
   try simp only [Act.put,zt,zv,zu]
   go_loopg [] k (fun kq w'=>∃ (x1001_1:Int) (x1002_1:Int) (x33008000_1:List (S56)) (u33008000:Value),Aside0 (spec_l10Bent.l0 kq s0_0 x1001_1 x1002_1 x33008000_1=some (r1,r2,r3))∧Aside0 (kq≤k)∧Aside0 (Kd.N k56 56 w' w.heap.size (fun k_=>(w.heap.size≤k_)∧k_ ≠ gb1∧k_ ≠ gb33007∧k_ ≠ g) u33008000 x33008000_1)∧Aside0 (w'.heap[gb1]? = some (.cells #[(.slice none 0 0)] 26 (0,0)))∧Aside0 (w'.heap[gb33007]? = some (.cells #[u33008000] 26 (0,0)))∧Aside0 (IsS77 w0 w' g s0_0 x1001_1 x1002_1)∧Aside0 (KeepBut w w' g none)∧Aside0 (Below w0.heap.size w0 w'))
   case atStart=>exact ⟨(t9),(t10),(t2),(.slice Ao27 t2.length co27),H',⟨Nat.le_refl _⟩,⟨by (with_reducible repeat ((apply Kd.N_drewN)));exact Kd.N_mono HO4.out (fun _ hk=>⟨hk.1.1,⟨hk.1.2.1,⟨hk.2,hk.1.2.2⟩⟩⟩)⟩,⟨za3 BK1.out⟩,⟨za3 BK7.out⟩,⟨za42⟩,⟨za32⟩,⟨za47⟩⟩
   case round =>
    clear H'
    try clear c1
    try clear c2
    try clear p2
    try clear c3
    try clear c4
    try clear c4b0
    try clear c4b1
    try clear c6
    try clear c6b0
    try clear c6b1
    try clear c7
    try clear p7
    try clear q7
    try clear hx7
    try clear qi7
    try clear hf7
    try clear c12
    try clear c13
    try clear c18
    try clear c21
    try clear c23
    try clear c23b0
    try clear c23b1
    try clear c28
    try clear c29
    try clear hcz14_0
    try clear hcz20_0
    try clear hcz22_0
    try clear hcz30_0
    try clear hfz14_0
    try clear hfz20_0
    try clear hfz22_0
    try clear hfz30_0
    try clear hx7_0
    try clear hx7_1
    try clear hx7_2
    try clear hx7_3
    try clear hx7_4
    try clear hx7_5
    try clear hx7_6
    try clear hx7_7
    try clear p7
    try clear q7
    obtain ⟨x1001_1,x1002_1,x33008000_1,u33008000,HA,HK1,HO_33008000,BK1,BK7,HI0,HK,HB⟩:=hrel
    cases gk with
    | zero=>exact absurd HA.out (by simp [spec_l10Bent.l0])
    | succ k1 =>
     have H:=HA.out
     clear HA
     simp only [spec_l10Bent.l0] at H
     by_cases c32:(x33008000_1.length:Int) < 7
     ·rw [if_pos c32] at H
      have c32b0:=zdl c32
      have c32b1:decide (x33008000_1.length < 7)=true:=decide_eq_true (by omega)
      clear c32
      obtain ⟨⟨t26,t27,t28,t29,t30,t31,t34,t37,t38,t39⟩,A33,H⟩:=zO H
      try dsimp only at H
      by_cases c34:x33008000_1.length < 1172812402961
      ·rw [if_pos c34] at H
       have LMc34:=zk c34
       clear c34
       obtain ⟨y33040,hy33040⟩:∃ y_:List (S56),y_=(x33008000_1 ++ [(⟨t26,t27,t28,(⟨t29,t30,t31⟩:S54),t34,t37⟩:S56)]):=⟨_,rfl⟩
       replace H:(spec_l10Bent.l0 k1 s0_0 t38 t39 y33040)=some (r1,r2,r3):=by ((rw [hy33040];with_reducible exact H))
       have Ny40:=zk hy33040
       clear hy33040
       have H':=zk H
       clear H
       have hnb35:=NB7_1.out
       have hnc35:=NB1_7.out
       have hnb36:=NB7_0.out
       have hnc36:=NB0_7.out
       have hcz37_0:wr.cell? ⟨gb33007,0,none⟩=some (u33008000):=(blk_cell BK7.out 0).trans rfl
       have hfz37_0:=blk_frozen BK7.out 0
       obtain ⟨Ao38,co38,eo38⟩:=Kd.N_slice HO_33008000.out
       subst eo38
       try go_wp2
       replace HO_33008000:=zk (Kd.N_drew HO_33008000.out)
       replace BK1:=zk (blk_drew BK1.out)
       replace BK7:=zk (blk_drew BK7.out)
       replace HI0:=zk (IsS77.drew HI0.out)
       replace HK:=zk (keep_drew HK.out)
       replace HB:=zk (below_drew1 HB.out)
       refine start_ (n:=8) (S:=fun w'=>w'.cell? ⟨gb33007,0,none⟩=some (.slice Ao38 x33008000_1.length co38)) (ds:=[7]) #[false,false,false,false,false,false,false,false] (by kernel_rfl) rfl rfl ((blk_cell BK7.out 0).trans rfl) (fun hHeld=>?_);refine with_tabW spec_l10Bent.tab7 spec_l10Bent.bits7 (fun HT_ HW_=>?_)
       generalize wr.drew=w39 at HO_33008000 BK1 BK7 HI0 HK HB hHeld ⊢
       refine zy 0 (some 21) HT_.out ?_
       refine zy 2 (some 23) HT_.out ?_
       refine ztk 1 (some 22) HT_.out HW_.out hHeld ?_
       refine zon 3 (some 24) HT_.out (fun K hK=>?_)
       refine goes_ Tryz.func61 (by kernel_rfl) rfl #[.pointer (some ⟨g,0,none⟩),.string ⟨#[88]⟩] (by rfl) rfl rfl za11 ?_
       with_reducible refine (spec_l9Draw.calls k1 g s0_0 x1001_1 x1002_1 (⟨#[88]⟩:ByteArray) t26 t27 t28 t29 t30 t31 t34 t37 t38 t39 w0 _ za42 za47 A33.out).mono ?_
       rintro e w40 ⟨v32,v35,rfl,ho0,ho1,hi,hb,hk⟩
       refine ⟨_,rfl,?_⟩
       have HO33:=zk (Kd.N_lower (Kd.N_mono (ok':=fun k_=>(w.heap.size≤k_)∧some k_ ≠ (v35:Value).ownBlock∧some k_ ≠ (.slice Ao38 x33008000_1.length co38:Value).ownBlock∧k_ ≠ gb1∧k_ ≠ gb33007∧k_ ≠ g) ho0 (fun k_ hk_=>⟨(Nat.le_trans (keep_size (w:=w) (g:=g) (row:=none) za32) hk_.1),hk_.2,(Kd.fresh' (Kd.N_lt (za6 HO_33008000.out)) k_ hk_.1),(zF BK1.out k_ hk_.1),(zF BK7.out k_ hk_.1),(IsS77.fresh za42 k_ hk_.1)⟩)) (keep_size (w:=w) (g:=g) (row:=none) za32))
       have HO36:=zk (Kd.R_lower (Kd.R_newM (M:=fun k_=>(w.heap.size≤k_)) (Kd.R_mono (ok':=fun k_=>True) ho1 (fun _ hk_=>trivial)) (keep_size (w:=w) (g:=g) (row:=none) za32) (fun k_ h_=>h_)) (keep_size (w:=w) (g:=g) (row:=none) za32))
       replace HB:=zk hb
       replace HO_33008000:=zk (Kd.N_mono (Kd.N_told (Kd.N_told (Kd.N_oldK (Kd.N_mono (ok:=fun k_=>(((w.heap.size≤k_))∧(k_ ≠ gb1∧(k_ ≠ gb33007∧k_ ≠ g)))) (za6 HO_33008000.out) (fun k_ hk_=>(⟨hk_,hk_.2.2.2⟩:_∧k_ ≠ g))) hk) (Kd.N_base ho0)) (Kd.R_base ho1)) (fun _ h_=>h_.1))
       replace BK1:=yq hk BK1 NB1_0
       replace BK7:=yq hk BK7 NB7_0
       replace HK:=yK HK hk
       replace HI0:=zk hi
       (try clear hb)
       (try clear hb2)
       (try clear hk)
       (try clear hi)
       (try clear ho0)
       (try clear ho1)
       obtain ⟨Ao42,co42,eo42⟩:=Kd.N_slice HO33.out
       ((subst eo42))
       obtain ⟨Ao43,co43,eo43⟩:=Kd.R_slice HO36.out
       ((subst eo43))
       refine hK.out _ _ ((blk_cell BK7.out 0).trans rfl) (fun hHeld=>?_)
       clear hK K
       refine zno (some 24) ?_
       refine zon 4 (some 25) HT_.out (fun K hK=>?_)
       refine value_ (w1:=?_) (v:=?_) (by rfl) rfl ?_ ?_
       rotate_left 2
       ·go_simp
        constructor
        ·rfl
        ·rfl
       refine hK.out _ _ ((blk_cell (blk_alloc BK7.out _) 0).trans rfl) (fun hHeld=>?_)
       clear hK K
       refine zno (some 25) ?_
       refine zon 5 (some 26) HT_.out (fun K hK=>?_)
       refine Kd.N_append_step k56 w.heap.size (by rfl) (.tmp 22) (.tmp 25) 24 56 (.agg #[(.int .i64 0),(.string ⟨#[]⟩),(.string ⟨#[]⟩),(.int .i64 0),(.string ⟨#[]⟩),(.slice none 0 0),(.slice none 0 0),(.int .i64 0)]) 120 rfl Tryz.underlying24 info56 rfl (by decide) (by omega) (.slice Ao38 x33008000_1.length co38) x33008000_1 (⟨t26,t27,t28,(⟨t29,t30,t31⟩:S54),t34,t37⟩:S56) [.int .i64 t26,.string t27,.string t28,.int .i64 t29,.string t30,.slice Ao42 t31.length co42,.slice Ao43 t34.length co43,.int .i64 t37] (fun k_=>(w.heap.size≤k_)∧k_ ≠ gb1∧k_ ≠ gb33007∧k_ ≠ g) (fun k_=>((fun k_=>(w.heap.size≤k_)∧k_ ≠ gb1∧k_ ≠ gb33007∧k_ ≠ g)) k_∧some k_ ≠ (.slice Ao38 x33008000_1.length co38:Value).ownBlock) rfl rfl ?aP (fun _ hk=>hk) ?aF ?aO (Below.refl _ _) ?aS ?aL ?_
       (case aP=>exact (k56_mkF _ _ (⟨t26,t27,t28,(⟨t29,t30,t31⟩:S54),t34,t37⟩:S56) (Kd.N_reads' (Kd.N_mono (ok':=(fun k_=>((fun k_=>(w.heap.size≤k_)∧k_ ≠ gb1∧k_ ≠ gb33007∧k_ ≠ g)) k_∧some k_ ≠ (.slice Ao38 x33008000_1.length co38:Value).ownBlock)) (HO33.out) (fun k_ hk=>⟨⟨hk.1,⟨hk.2.2.2.1,⟨hk.2.2.2.2.1,hk.2.2.2.2.2⟩⟩⟩,hk.2.2.1⟩))).2.1 (Kd.N_F (Kd.N_mono (ok':=(fun k_=>((fun k_=>(w.heap.size≤k_)∧k_ ≠ gb1∧k_ ≠ gb33007∧k_ ≠ g)) k_∧some k_ ≠ (.slice Ao38 x33008000_1.length co38:Value).ownBlock)) (HO33.out) (fun k_ hk=>⟨⟨hk.1,⟨hk.2.2.2.1,⟨hk.2.2.2.2.1,hk.2.2.2.2.2⟩⟩⟩,hk.2.2.1⟩))) (Kd.R_reads' (Kd.R_mono (ok':=(fun k_=>((fun k_=>(w.heap.size≤k_)∧k_ ≠ gb1∧k_ ≠ gb33007∧k_ ≠ g)) k_∧some k_ ≠ (.slice Ao38 x33008000_1.length co38:Value).ownBlock)) (IsS77.apart HI0.out (Kd.R_types (Kd.R_types (Kd.R_apart' (HO36.out) (Kd.N_typed HO_33008000.out) (by decide)) BK1.out (by decide)) BK7.out (by decide)) (by decide)) (fun k_ hk=>⟨⟨hk.1.1.1.1.1,⟨hk.1.1.2,⟨hk.1.2,hk.2⟩⟩⟩,hk.1.1.1.2⟩))).2.1 (Kd.R_F (Kd.R_mono (ok':=(fun k_=>((fun k_=>(w.heap.size≤k_)∧k_ ≠ gb1∧k_ ≠ gb33007∧k_ ≠ g)) k_∧some k_ ≠ (.slice Ao38 x33008000_1.length co38:Value).ownBlock)) (IsS77.apart HI0.out (Kd.R_types (Kd.R_types (Kd.R_apart' (HO36.out) (Kd.N_typed HO_33008000.out) (by decide)) BK1.out (by decide)) BK7.out (by decide)) (by decide)) (fun k_ hk=>⟨⟨hk.1.1.1.1.1,⟨hk.1.1.2,⟨hk.1.2,hk.2⟩⟩⟩,hk.1.1.1.2⟩)))))
       (case aF=>exact (fun k_ hk=>⟨(Nat.le_trans (keep_size (w:=w) (g:=g) (row:=none) za32) hk),zF BK1.out k_ hk,zF BK7.out k_ hk,IsS77.fresh za42 k_ hk⟩))
       (case aO=>exact (by (with_reducible repeat ((apply Kd.N_drewN)));exact Kd.N_mono HO_33008000.out (fun _ hk=>⟨hk.1.1.1,⟨hk.1.1.2.1,⟨hk.1.1.2.2.1,hk.1.1.2.2.2⟩⟩⟩)))
       (case aS=>exact (keep_size (w:=w) (g:=g) (row:=none) za32))
       (case aL=>have:=LMc34.out;omega)
       intro v41 w41 ho hb hg hat
       rw [← Ny40.out] at ho
       replace BK1:=zk (blk_grown (g:=gb1) (o:=.cells #[.slice none 0 0] 26 (0,0)) (za3 BK1.out) hg (Kd.N_ne HO_33008000.out BK1.out (by decide)))
       replace BK7:=zk (blk_grown (g:=gb33007) (o:=.cells #[.slice Ao38 x33008000_1.length co38] 26 (0,0)) (za3 BK7.out) hg (Kd.N_ne HO_33008000.out BK7.out (by decide)))
       replace HB:=zk (below_weaken za47 HL.out hb)
       replace HK:=zk (KeepBut.trans za32 (KeepBut.of_grown hg g) (Kd.N_base2 HO_33008000.out))
       have HO42:=zk ho
       replace HI0:=zk (IsS77.grown za42 hg (IsS77.own_neN HI0.out HO_33008000.out (by decide)))
       clear HO_33008000
       clear HO33
       clear HO36
       clear ho hb hg hat
       obtain ⟨Ao44,co44,eo44⟩:=Kd.N_slice HO42.out
       ((subst eo44))
       refine hK.out _ _ ((blk_cell BK7.out 0).trans rfl) (fun hHeld=>?_)
       clear hK K
       refine zno (some 26) ?_
       refine zy 6 (some 27) HT_.out ?_
       refine last_ (i:=7) (N:=none) #[true,true,true,true,true,true,true,true] rfl rfl (one_of HT_.out (by kernel_rfl)) (by decide) (fun K hK=>?_)
       have hs45:w41.cell? ⟨gb33007,0,none⟩=some (.slice Ao38 x33008000_1.length co38):=(blk_cell BK7.out 0).trans rfl
       have hfs45:=blk_frozen BK7.out 0
       have hns45_0:=NB1_7.out
       have hms45_0:=NB7_1.out
       refine skip_ (w1:=?_) (by rfl) rfl ?_ ?_
       rotate_left
       ·go_simp
        rfl
       refine hK.out _ _ ?_
       clear hK K
       refine done_ (done_of HT_.out (by kernel_rfl)) ?_
       try go_wp2
       go_roundg k1
       case measure=>have:=HK1.out;omega
       case rel=>exact ⟨(t38),(t39),(y33040),(.slice Ao44 y33040.length co44),H',⟨za43⟩,⟨by (with_reducible repeat ((apply Kd.N_drewN)));exact Kd.N_mono (zfN (Kd.N_mono HO42.out (fun k_ hk=>(⟨hk,hk.2.2.1⟩:_∧k_ ≠ gb33007)))) (fun _ hk=>⟨hk.1.1,⟨hk.1.2.1,⟨hk.1.2.2.1,hk.1.2.2.2⟩⟩⟩)⟩,⟨zpw BK1.out⟩,⟨zpu BK7.out⟩,⟨za42⟩,⟨za32⟩,⟨za47⟩⟩
      ·rw [if_neg c34] at H
       exact absurd H (by simp)
     ·rw [if_neg c32] at H
      have c32b0:=zdnl c32
      have c32b1:decide (x33008000_1.length < 7)=false:=decide_eq_false (by omega)
      clear c32
      simp only [Option.some.injEq,Prod.mk.injEq] at H
      obtain ⟨rfl,rfl,rfl⟩:=H
      have hnb46:=NB7_1.out
      have hnc46:=NB1_7.out
      have hnb47:=NB7_0.out
      have hnc47:=NB0_7.out
      have hcz48_0:wr.cell? ⟨gb33007,0,none⟩=some (u33008000):=(blk_cell BK7.out 0).trans rfl
      have hfz48_0:=blk_frozen BK7.out 0
      obtain ⟨Ao49,co49,eo49⟩:=Kd.N_slice HO_33008000.out
      subst eo49
      have hnb50:=NB1_0.out
      have hnc50:=NB0_1.out
      have hcz51_0:wr.cell? ⟨gb1,0,none⟩=some (.slice none 0 0):=(blk_cell BK1.out 0).trans rfl
      have hfz51_0:=blk_frozen BK1.out 0
      go_wp2
      refine bodyPost_ret (results_cell_row rfl _ _ gb1 26 #[.slice Ao49 x33008000_1.length co49] (0,0) _ rfl (zpu BK1.out) Tryz.underlying26 rfl (by kernel_rfl)) rfl ?_
      exact ⟨_,by (rfl),by (with_reducible repeat ((apply Kd.N_drewN)));exact Kd.N_mono (zfN (Kd.N_mono HO_33008000.out (fun k_ hk=>(⟨hk,hk.2.1⟩:_∧k_ ≠ gb1)))) (fun _ hk=>hk.1.1),za42,za47,za32⟩
  ·rw [if_neg c23] at H
   have c23b0:=zbn c23
   have c23b1:=zqt c23
   simp only [Option.some.injEq,Prod.mk.injEq] at H
   obtain ⟨rfl,rfl,rfl⟩:=H
   go_enter Tryz.func33,Tryz.ntmps33
   go_wp2_with (first|((with_reducible refine gate_dst (N:=2) rfl ?_);refine zE (cs:=#[.slice none 0 0]) (t:=26) ?_;intro gb1 hg w52 hbox hb;replace HB:=yB HB hb;have BK1:=zk hbox;have GW1:=zk ((by rw [hg];exact (keep_size (w:=w) (g:=g) (row:=none) za16):w.heap.size≤gb1));have GE1:=zk ((Nat.le_trans HW0.out (by rw [hg];exact (keep_size (w:=w) (g:=g) (row:=none) za16):w.heap.size≤gb1):w0.heap.size≤gb1));have NB0_1:=zk (zm hg (IsS77.lt (show IsS77 w0 _ g s0_0 s0_1 s0_2 from za27)));have NB1_0:=zk (zM hg (IsS77.lt (show IsS77 w0 _ g s0_0 s0_1 s0_2 from za27)));replace HI0:=zk (IsS77.below za27 hb);replace HK:=yk HK hb;clear hb hbox hg)|((with_reducible refine gate_callee (f:=43) rfl ?_);refine zg (some 5) Tryz.func43 #[.pointer (some ⟨g,0,none⟩),.int .i64 3] rfl za11 ?_;(with_reducible refine (spec_l10Draw.calls k g s0_0 s0_1 s0_2 3 t2 t5 t6 w0 _ za27 za22 A2.out).mono ?_);rintro e w53 ⟨v3,rfl,ho0,hi,hb,hk⟩;refine ⟨_,rfl,?_⟩;have HO4:=zk (Kd.N_lower (Kd.N_mono (ok':=fun k_=>(w.heap.size≤k_)∧k_ ≠ gb1∧k_ ≠ g) ho0 (fun k_ hk_=>⟨(Nat.le_trans (keep_size (w:=w) (g:=g) (row:=none) za16) hk_),(zF BK1.out k_ hk_),(IsS77.fresh za27 k_ hk_)⟩)) (keep_size (w:=w) (g:=g) (row:=none) za16));replace HB:=zk hb;replace BK1:=yq hk BK1 NB1_0;replace HK:=yK HK hk;replace HI0:=zk hi;(try clear hb hk hi ho0))|((with_reducible refine gate_dst (N:=3) rfl ?_);refine zE (cs:=#[.slice none 0 0]) (t:=26) ?_;intro gb33007 hg w54 hbox hb;replace HO4:=zk (Kd.N_below (Kd.N_elderB (za6 HO4.out) gb33007 (Nat.le_of_eq hg.symm)) hb);replace HB:=yB HB hb;have BK7:=zk hbox;have GW7:=zk ((by rw [hg];exact (keep_size (w:=w) (g:=g) (row:=none) za16):w.heap.size≤gb33007));have GE7:=zk ((Nat.le_trans HW0.out (by rw [hg];exact (keep_size (w:=w) (g:=g) (row:=none) za16):w.heap.size≤gb33007):w0.heap.size≤gb33007));have NB1_7:=yn hg BK1;have NB7_1:=yp hg BK1;have NB0_7:=zk (zm hg (IsS77.lt (show IsS77 w0 _ g s0_0 t5 t6 from za27)));have NB7_0:=zk (zM hg (IsS77.lt (show IsS77 w0 _ g s0_0 t5 t6 from za27)));replace HI0:=zk (IsS77.below za27 hb);replace BK1:=yb BK1 hb;replace HK:=yk HK hb;clear hb hbox hg;obtain ⟨Ao55,co55,eo55⟩:=Kd.N_slice HO4.out;subst eo55;have hnb56:=NB7_1.out;have hnc56:=NB1_7.out;have hnb57:=NB7_0.out;have hnc57:=NB0_7.out;have hcz58_0:w54.cell? ⟨gb33007,0,none⟩=some (.slice none 0 0):=(blk_cell BK7.out 0).trans rfl;have hfz58_0:=blk_frozen BK7.out 0)|((with_reducible refine gate_callee (f:=42) rfl ?_);refine zg (some 7) Tryz.func42 #[.pointer (some ⟨g,0,none⟩),.int .i64 12] rfl za11 ?_;(with_reducible refine (spec_l1Below.calls g s0_0 t5 t6 12 t8 t9 t10 w0 _ za42 za47 A3.out).mono ?_);rintro e w59 ⟨rfl,hi,hb,hk⟩;refine ⟨_,rfl,?_⟩;replace BK1:=zk (KeepBut.blk hk (g':=gb1) (o:=.cells #[.slice none 0 0] 26 (0,0)) (zpw BK1.out) NB1_0.out (by simp));replace HO4:=zk (Kd.N_mono (Kd.N_keep (Kd.N_mono (ok:=fun k_=>((((w.heap.size≤k_))∧(k_ ≠ gb1∧k_ ≠ g))∧k_ ≠ gb33007)) za72 (fun k_ hk_=>(⟨hk_,hk_.1.2.2⟩:_∧k_ ≠ g))) hk (fun _ h=>h.2)) (fun _ h=>h.1));replace BK7:=zk (KeepBut.blk hk (g':=gb33007) (o:=.cells #[.slice Ao55 t2.length co55] 26 (0,0)) (zpu BK7.out) NB7_0.out (by simp));replace HK:=yK HK hk;replace HB:=zk hb;replace HI0:=zk hi;(try clear hb hk hi);have hcz60_0:w59.cell? ⟨gb33007,0,none⟩=some (.slice Ao55 t2.length co55):=(blk_cell BK7.out 0).trans rfl;have hfz60_0:=blk_frozen BK7.out 0;have hnb61:=NB1_0.out;have hnc61:=NB0_1.out;have hcz62_0:w59.cell? ⟨gb1,0,none⟩=some (.slice none 0 0):=(blk_cell BK1.out 0).trans rfl;have hfz62_0:=blk_frozen BK1.out 0))
   refine bodyPost_ret (results_cell_row rfl _ _ gb1 26 #[.slice Ao55 t2.length co55] (0,0) _ rfl (zpu BK1.out) Tryz.underlying26 rfl (by kernel_rfl)) rfl ?_
   exact ⟨_,by (rfl),by (with_reducible repeat ((apply Kd.N_drewN)));exact Kd.N_mono (zfN (Kd.N_mono HO4.out (fun k_ hk=>(⟨hk,hk.1.2.1⟩:_∧k_ ≠ gb1)))) (fun _ hk=>hk.1.1.1),za42,za47,za32⟩
end Go.Proofs.YtcbjhfoeecfcoaaGreat.A
