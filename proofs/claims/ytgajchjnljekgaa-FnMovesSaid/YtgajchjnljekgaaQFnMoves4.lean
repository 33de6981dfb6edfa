/- FnMoves: what its proof needs, put together by this session's program wip/merge.py out of the texts that wip/xp.py printed and of this session's own. -/
import Derived.Test.YtgajchjnljekgaaQFnMoves3
set_option linter.unusedVariables false
set_option linter.unusedSimpArgs false
set_option linter.unusedSectionVars false
set_option maxHeartbeats 8000000
set_option maxRecDepth 100000
namespace Go.Proofs.Ytgajchjnljekgaa.A
open Go.RowKit Ytgajchjnljekgaa.Ext YtgajchjnljekgaaW.PrintWords YtgajchjnljekgaaW.PrintLast YtgajchjnljekgaaW.PrintMore
attribute [local go_sem] max2_int min2_int max_two min_two max_three min_three max_four min_four
def spec_l9Bent.f (k:Nat) (s0_0:List Int) (s0_1:Int) (s0_2:Int):Option (Int × ByteArray × ByteArray × Int × ByteArray × (List (S58)) × List Int × Int × Int × Int):=(spec_l9Draw.f k s0_0 s0_1 s0_2 (⟨#[88,89,90]⟩:ByteArray)).bind fun bt52002=>((spec_l1Below.f s0_0 bt52002.2.2.2.2.2.2.2.2.1 bt52002.2.2.2.2.2.2.2.2.2 10).bind fun bt52017=>(if bt52017.1=0 then ((spec_l1Below.f s0_0 bt52017.2.1 bt52017.2.2 7).bind fun bt52020=>(some (bt52020.1,bt52002.2.1,bt52002.2.2.1,bt52002.2.2.2.1,bt52002.2.2.2.2.1,bt52002.2.2.2.2.2.1,bt52002.2.2.2.2.2.2.1,bt52002.2.2.2.2.2.2.2.1,bt52020.2.1,bt52020.2.2))) else (if bt52017.1=1 then ((spec_l8Any.f k s0_0 bt52017.2.1 bt52017.2.2).bind fun bt52023=>(some (bt52002.1,bt52023.1,bt52002.2.2.1,bt52002.2.2.2.1,bt52002.2.2.2.2.1,bt52002.2.2.2.2.2.1,bt52002.2.2.2.2.2.2.1,bt52002.2.2.2.2.2.2.2.1,bt52023.2.1,bt52023.2.2))) else (if bt52017.1=2 then ((spec_l1PickInt.f s0_0 bt52017.2.1 bt52017.2.2 (([99,100,(-99)]:List Int))).bind fun bt52029=>(some (bt52002.1,bt52002.2.1,bt52002.2.2.1,bt52002.2.2.2.1,bt52002.2.2.2.2.1,bt52002.2.2.2.2.2.1,bt52002.2.2.2.2.2.2.1,bt52029.1,bt52029.2.1,bt52029.2.2))) else (if bt52017.1=3 then ((spec_l1PickInt.f s0_0 bt52017.2.1 bt52017.2.2 (([0,9,10]:List Int))).bind fun bt52035=>(if bt52002.2.2.2.2.2.2.1.length < 17592186044416 then (some (bt52002.1,bt52002.2.1,bt52002.2.2.1,bt52002.2.2.2.1,bt52002.2.2.2.2.1,bt52002.2.2.2.2.2.1,(bt52002.2.2.2.2.2.2.1 ++ [bt52035.1]),bt52002.2.2.2.2.2.2.2.1,bt52035.2.1,bt52035.2.2)) else (none))) else (some (bt52002.1,bt52002.2.1,bt52002.2.2.1,bt52002.2.2.2.1,bt52002.2.2.2.2.1,bt52002.2.2.2.2.2.1,bt52002.2.2.2.2.2.2.1,bt52002.2.2.2.2.2.2.2.1,bt52017.2.1,bt52017.2.2)))))))
def spec_l9Bent.T10:Bool × List (List Nat × List Nat):=(true,[([],[]),([0],[0]),([],[]),([],[]),([2,3],[2,3]),([4],[4]),([1,5,4],[1,5]),([0,1,2,3,4,5,6],[]),([7,6,6,0,1,2,3,4,5,6],[6,7])])
def spec_l9Bent.B10:List Nat:=[0,1,0,0,12,28,63,127,255]
theorem spec_l9Bent.tab10:rtab .any (opsOf Try.f52 10)=spec_l9Bent.T10:=by kernel_rfl
theorem spec_l9Bent.bits10:waitsOk spec_l9Bent.T10.2 spec_l9Bent.B10=true:=by kernel_rfl
theorem spec_l9Bent.calls (k:Nat) (g:Nat) (s0_0:List Int) (s0_1:Int) (s0_2:Int) (r1:Int) (r2:ByteArray) (r3:ByteArray) (r4:Int) (r5:ByteArray) (r6:List (S58)) (r7:List Int) (r8:Int) (r9:Int) (r10:Int) (w0 w:World) (hI:IsS69 w0 w g s0_0 s0_1 s0_2) (hB:Below w0.heap.size w0 w) (h:spec_l9Bent.f k s0_0 s0_1 s0_2=some (r1,r2,r3,r4,r5,r6,r7,r8,r9,r10)) :
  Calls Try.prog 52 #[.pointer (some ⟨g,0,none⟩)] w fun e w'=>∃ v5_ v6_:Value,e = .returned (.agg #[.int .i64 r1,.string r2,.string r3,.int .i64 r4,.string r5,v5_,v6_,.int .i64 r8])∧Kd.N k58 58 w' w.heap.size (fun k_=>(w.heap.size≤k_)∧some k_ ≠ (v6_:Value).ownBlock) v5_ r6∧Kd.R (Kd.int .i64) 3 w' w.heap.size (fun k_=>(w.heap.size≤k_)) v6_ r7∧IsS69 w0 w' g s0_0 r9 r10∧Below w0.heap.size w0 w'∧KeepBut w w' g none:=by
 have hu61:=Try.underlying61
 have HI0:=zk hI
 have HK:=zk (KeepBut.refl w g none)
 have HL:=zk hB.size
 clear hI
 have HW0:=zk hB.size
 have HB:=zk hB
 clear hB
 have H:=h
 unfold spec_l9Bent.f at H
 clear h
 replace H:=zo H
 obtain ⟨⟨t52002,t52003,t52004,t52005,t52006,t52007,t52010,t52013,t52014,t52015⟩,A20,H⟩:=H
 try dsimp only at H
 have A2:=zk A20
 clear A20
 replace H:=zo H
 obtain ⟨⟨t52017,t52018,t52019⟩,A30,H⟩:=H
 try dsimp only at H
 have A3:=zk A30
 clear A30
 by_cases c4:t52017=0
 ·rw [if_pos c4] at H
  have c4b0:=zbt c4
  have c4b1:=zqn c4
  clear c4
  replace H:=zo H
  obtain ⟨⟨t52020,t52021,t52022⟩,A50,H⟩:=H
  try dsimp only at H
  have A5:=zk A50
  clear A50
  simp only [Option.some.injEq,Prod.mk.injEq] at H
  obtain ⟨rfl,rfl,rfl,rfl,rfl,rfl,rfl,rfl,rfl,rfl⟩:=H
  go_enter Try.func52,Try.ntmps52
  go_wp2_with (first|((with_reducible refine gate_dst (N:=2) rfl ?_);refine zE (N:=2) (cs:=#[.int .i64 0,.string (⟨#[]⟩:ByteArray),.string (⟨#[]⟩:ByteArray),.int .i64 0,.string (⟨#[]⟩:ByteArray),.slice none 0 0,.slice none 0 0,.int .i64 0]) (t:=61) ?_;intro gb52001 hg w6 hbox hb;replace HB:=zk (below_step za12 hb);have BK52001:=zk (hbox);have GW52001:=zk ((by rw [hg];exact (keep_size (w:=w) (g:=g) (row:=none) za6):w.heap.size≤gb52001));have GE52001:=zk ((Nat.le_trans HW0.out (by rw [hg];exact (keep_size (w:=w) (g:=g) (row:=none) za6):w.heap.size≤gb52001):w0.heap.size≤gb52001));have NB0_52001:=zk ((by rw [hg];exact Nat.ne_of_lt (IsS69.lt (show IsS69 w0 _ g s0_0 s0_1 s0_2 from za5)):g ≠ gb52001));have NB52001_0:=zk ((by rw [hg];exact Nat.ne_of_gt (IsS69.lt (show IsS69 w0 _ g s0_0 s0_1 s0_2 from za5)):gb52001 ≠ g));replace HI0:=zk (IsS69.below za5 hb);replace HK:=zk (KeepBut.trans za6 (KeepBut.of_below hb g none) (.inl rfl));clear hb hbox hg)|((with_reducible refine gate_callee (f:=53) rfl ?_);refine goesL_ (some 5) rfl rfl Try.func53 (by kernel_rfl) rfl #[.pointer (some ⟨g,0,none⟩),.string (⟨#[88,89,90]⟩:ByteArray)] rfl za4 ?_;(with_reducible refine (spec_l9Draw.calls k g s0_0 s0_1 s0_2 (⟨#[88,89,90]⟩:ByteArray) t52002 t52003 t52004 t52005 t52006 t52007 t52010 t52013 t52014 t52015 w0 _ za18 za40 A2.out).mono ?_);rintro e w7 ⟨v52008,v52011,rfl,ho0,ho1,hi,hb,hk⟩;refine ⟨_,rfl,?_⟩;have HO52009:=zk (Kd.N_lower (Kd.N_mono (ok':=fun k_=>(w.heap.size≤k_)∧some k_ ≠ (v52011:Value).ownBlock∧k_ ≠ gb52001∧k_ ≠ g) ho0 (fun k_ hk_=>⟨(Nat.le_trans (keep_size (w:=w) (g:=g) (row:=none) za13) hk_.1),hk_.2,(Kd.freshB (g:=gb52001) (o:=.cells #[.int .i64 0,.string (⟨#[]⟩:ByteArray),.string (⟨#[]⟩:ByteArray),.int .i64 0,.string (⟨#[]⟩:ByteArray),.slice none 0 0,.slice none 0 0,.int .i64 0] 61 (0,0)) (za1 BK52001.out) k_ hk_.1),(IsS69.fresh za18 k_ hk_.1)⟩)) (keep_size (w:=w) (g:=g) (row:=none) za13));have HO52012:=zk (Kd.R_lower (Kd.R_newM (M:=fun k_=>(w.heap.size≤k_)) (Kd.R_mono (ok':=fun k_=>True) ho1 (fun _ hk_=>trivial)) (keep_size (w:=w) (g:=g) (row:=none) za13) (fun k_ h_=>h_)) (keep_size (w:=w) (g:=g) (row:=none) za13));replace HB:=zk (hb);replace BK52001:=zk (KeepBut.blk hk (g':=gb52001) (o:=.cells #[.int .i64 0,.string (⟨#[]⟩:ByteArray),.string (⟨#[]⟩:ByteArray),.int .i64 0,.string (⟨#[]⟩:ByteArray),.slice none 0 0,.slice none 0 0,.int .i64 0] 61 (0,0)) (za1 BK52001.out) NB52001_0.out (by simp));replace HK:=zk (KeepBut.trans za13 hk (.inl rfl));replace HI0:=zk (hi);(try clear hb);(try clear hb2);(try clear hk);(try clear hi);(try clear ho0);(try clear ho1))|((with_reducible refine gate_dst (N:=3) rfl ?_);refine zE (N:=3) (cs:=#[.int .i64 0,.string (⟨#[]⟩:ByteArray),.string (⟨#[]⟩:ByteArray),.int .i64 0,.string (⟨#[]⟩:ByteArray),.slice none 0 0,.slice none 0 0,.int .i64 0]) (t:=61) ?_;intro gb52016 hg w8 hbox hb;replace HO52009:=zk (Kd.N_below (Kd.N_elderB (za2 HO52009.out) gb52016 (Nat.le_of_eq hg.symm)) hb);replace HO52012:=zk (Kd.R_below (za0 HO52012.out) hb);replace HB:=zk (below_step za40 hb);have BK52016:=zk (hbox);have GW52016:=zk ((by rw [hg];exact (keep_size (w:=w) (g:=g) (row:=none) za13):w.heap.size≤gb52016));have GE52016:=zk ((Nat.le_trans HW0.out (by rw [hg];exact (keep_size (w:=w) (g:=g) (row:=none) za13):w.heap.size≤gb52016):w0.heap.size≤gb52016));have NB52001_52016:=zk ((by rw [hg];exact Nat.ne_of_lt (zl BK52001.out):gb52001 ≠ gb52016));have NB52016_52001:=zk ((by rw [hg];exact Nat.ne_of_gt (zl BK52001.out):gb52016 ≠ gb52001));have NB0_52016:=zk ((by rw [hg];exact Nat.ne_of_lt (IsS69.lt (show IsS69 w0 _ g s0_0 t52014 t52015 from za18)):g ≠ gb52016));have NB52016_0:=zk ((by rw [hg];exact Nat.ne_of_gt (IsS69.lt (show IsS69 w0 _ g s0_0 t52014 t52015 from za18)):gb52016 ≠ g));replace HI0:=zk (IsS69.below za18 hb);replace BK52001:=zk (zb BK52001.out hb);replace HK:=zk (KeepBut.trans za13 (KeepBut.of_below hb g none) (.inl rfl));clear hb hbox hg;have hnb9:=NB52016_52001.out;have hnc9:=NB52001_52016.out;have hnb10:=NB52016_0.out;have hnc10:=NB0_52016.out;obtain ⟨hcz11_0,hcz11_1,hcz11_2,hcz11_3,hcz11_4,hcz11_5,hcz11_6,hcz11_7,hfz11_0,hfz11_1,hfz11_2,hfz11_3,hfz11_4,hfz11_5,hfz11_6,hfz11_7⟩:=blk8 BK52016.out;obtain ⟨Ao12,co12,eo12⟩:=Kd.N_slice HO52009.out;subst eo12;obtain ⟨Ao13,co13,eo13⟩:=Kd.R_slice HO52012.out;subst eo13)|((with_reducible refine gate_callee (f:=42) rfl ?_);refine goesL_ (some 7) rfl rfl Try.func42 (by kernel_rfl) rfl #[.pointer (some ⟨g,0,none⟩),.int .i64 10] rfl za4 ?_;(with_reducible refine (spec_l1Below.calls g s0_0 t52014 t52015 10 t52017 t52018 t52019 w0 _ za14 za25 A3.out).mono ?_);rintro e w14 ⟨rfl,hi,hb,hk⟩;refine ⟨_,rfl,?_⟩;replace BK52001:=zk (KeepBut.blk hk (g':=gb52001) (o:=.cells #[.int .i64 0,.string (⟨#[]⟩:ByteArray),.string (⟨#[]⟩:ByteArray),.int .i64 0,.string (⟨#[]⟩:ByteArray),.slice none 0 0,.slice none 0 0,.int .i64 0] 61 (0,0)) za17 NB52001_0.out (by simp));replace HO52009:=zk (Kd.N_mono (Kd.N_keep (Kd.N_mono (ok:=fun k_=>((((w.heap.size≤k_))∧(some k_ ≠ (.slice Ao13 t52010.length co13:Value).ownBlock∧(k_ ≠ gb52001∧k_ ≠ g)))∧k_ ≠ gb52016)) za65 (fun k_ hk_=>(⟨hk_,hk_.1.2.2.2⟩:_∧k_ ≠ g))) hk (fun _ h=>h.2)) (fun _ h=>h.1));replace HO52012:=zk (Kd.R_mono (Kd.R_keep (IsS69.apart (show IsS69 w0 _ g s0_0 t52014 t52015 from za14) za68 (by decide)) hk (fun _ h=>h.2)) (fun _ h=>h.1));replace HK:=zk (KeepBut.trans za21 hk (.inl rfl));replace HB:=zk (hb);replace BK52016:=zk (KeepBut.blk hk (g':=gb52016) (o:=.cells #[.int .i64 t52002,.string t52003,.string t52004,.int .i64 t52005,.string t52006,.slice Ao12 t52007.length co12,.slice Ao13 t52010.length co13,.int .i64 t52013] 61 (0,0)) (zpu BK52016.out) NB52016_0.out (by simp));replace HI0:=zk (hi);(try clear hb);(try clear hb2);(try clear hk);(try clear hi))|((with_reducible refine gate_callee (f:=42) rfl ?_);refine goesL_ (some 11) rfl rfl Try.func42 (by kernel_rfl) rfl #[.pointer (some ⟨g,0,none⟩),.int .i64 7] rfl za4 ?_;(with_reducible refine (spec_l1Below.calls g s0_0 t52018 t52019 7 t52020 t52021 t52022 w0 _ za14 za25 A5.out).mono ?_);rintro e w15 ⟨rfl,hi,hb,hk⟩;refine ⟨_,rfl,?_⟩;replace BK52001:=zk (KeepBut.blk hk (g':=gb52001) (o:=.cells #[.int .i64 0,.string (⟨#[]⟩:ByteArray),.string (⟨#[]⟩:ByteArray),.int .i64 0,.string (⟨#[]⟩:ByteArray),.slice none 0 0,.slice none 0 0,.int .i64 0] 61 (0,0)) (za1 BK52001.out) NB52001_0.out (by simp));replace HO52009:=zk (Kd.N_mono (Kd.N_keep (Kd.N_mono (ok:=fun k_=>((((w.heap.size≤k_))∧(some k_ ≠ (.slice Ao13 t52010.length co13:Value).ownBlock∧(k_ ≠ gb52001∧k_ ≠ g)))∧k_ ≠ gb52016)) (za2 HO52009.out) (fun k_ hk_=>(⟨hk_,hk_.1.2.2.2⟩:_∧k_ ≠ g))) hk (fun _ h=>h.2)) (fun _ h=>h.1));replace HO52012:=zk (Kd.R_mono (Kd.R_keep (IsS69.apart (show IsS69 w0 _ g s0_0 t52018 t52019 from za14) (za0 HO52012.out) (by decide)) hk (fun _ h=>h.2)) (fun _ h=>h.1));replace BK52016:=zk (KeepBut.blk hk (g':=gb52016) (o:=.cells #[.int .i64 t52002,.string t52003,.string t52004,.int .i64 t52005,.string t52006,.slice Ao12 t52007.length co12,.slice Ao13 t52010.length co13,.int .i64 t52013] 61 (0,0)) (za1 BK52016.out) NB52016_0.out (by simp));replace HK:=zk (KeepBut.trans za21 hk (.inl rfl));replace HB:=zk (hb);replace HI0:=zk (hi);(try clear hb);(try clear hb2);(try clear hk);(try clear hi);obtain ⟨hcz16_0,hcz16_1,hcz16_2,hcz16_3,hcz16_4,hcz16_5,hcz16_6,hcz16_7,hfz16_0,hfz16_1,hfz16_2,hfz16_3,hfz16_4,hfz16_5,hfz16_6,hfz16_7⟩:=blk8 BK52016.out;have hnb17:=NB52001_0.out;have hnc17:=NB0_52001.out;obtain ⟨hcz18_0,hcz18_1,hcz18_2,hcz18_3,hcz18_4,hcz18_5,hcz18_6,hcz18_7,hfz18_0,hfz18_1,hfz18_2,hfz18_3,hfz18_4,hfz18_5,hfz18_6,hfz18_7⟩:=blk8 BK52001.out))
  refine bodyPost_ret (results_cell_row rfl _ _ gb52001 61 #[.int .i64 t52020,.string t52003,.string t52004,.int .i64 t52005,.string t52006,.slice Ao12 t52007.length co12,.slice Ao13 t52010.length co13,.int .i64 t52013] (0,0) _ rfl (by (with_reducible repeat (first|refine blk_drewN ?_ _|refine blk_drew ?_|refine blk_alloc ?_ _));refine blk_put (cs:=#[.int .i64 t52020,.string t52003,.string t52004,.int .i64 t52005,.string t52006,.slice Ao12 t52007.length co12,.slice Ao13 t52010.length co13,.int .i64 0]) ?_ 7 _ rfl;(with_reducible repeat (first|refine blk_drewN ?_ _|refine blk_drew ?_|refine blk_alloc ?_ _));refine blk_put (cs:=#[.int .i64 t52020,.string t52003,.string t52004,.int .i64 t52005,.string t52006,.slice Ao12 t52007.length co12,.slice none 0 0,.int .i64 0]) ?_ 6 _ rfl;(with_reducible repeat (first|refine blk_drewN ?_ _|refine blk_drew ?_|refine blk_alloc ?_ _));refine blk_put (cs:=#[.int .i64 t52020,.string t52003,.string t52004,.int .i64 t52005,.string t52006,.slice none 0 0,.slice none 0 0,.int .i64 0]) ?_ 5 _ rfl;(with_reducible repeat (first|refine blk_drewN ?_ _|refine blk_drew ?_|refine blk_alloc ?_ _));refine blk_put (cs:=#[.int .i64 t52020,.string t52003,.string t52004,.int .i64 t52005,.string (⟨#[]⟩:ByteArray),.slice none 0 0,.slice none 0 0,.int .i64 0]) ?_ 4 _ rfl;(with_reducible repeat (first|refine blk_drewN ?_ _|refine blk_drew ?_|refine blk_alloc ?_ _));refine blk_put (cs:=#[.int .i64 t52020,.string t52003,.string t52004,.int .i64 0,.string (⟨#[]⟩:ByteArray),.slice none 0 0,.slice none 0 0,.int .i64 0]) ?_ 3 _ rfl;(with_reducible repeat (first|refine blk_drewN ?_ _|refine blk_drew ?_|refine blk_alloc ?_ _));refine blk_put (cs:=#[.int .i64 t52020,.string t52003,.string (⟨#[]⟩:ByteArray),.int .i64 0,.string (⟨#[]⟩:ByteArray),.slice none 0 0,.slice none 0 0,.int .i64 0]) ?_ 2 _ rfl;(with_reducible repeat (first|refine blk_drewN ?_ _|refine blk_drew ?_|refine blk_alloc ?_ _));refine blk_put (cs:=#[.int .i64 t52020,.string (⟨#[]⟩:ByteArray),.string (⟨#[]⟩:ByteArray),.int .i64 0,.string (⟨#[]⟩:ByteArray),.slice none 0 0,.slice none 0 0,.int .i64 0]) ?_ 1 _ rfl;(with_reducible repeat (first|refine blk_drewN ?_ _|refine blk_drew ?_|refine blk_alloc ?_ _));refine blk_put (cs:=#[.int .i64 0,.string (⟨#[]⟩:ByteArray),.string (⟨#[]⟩:ByteArray),.int .i64 0,.string (⟨#[]⟩:ByteArray),.slice none 0 0,.slice none 0 0,.int .i64 0]) ?_ 0 _ rfl;(with_reducible repeat (first|refine blk_drewN ?_ _|refine blk_drew ?_|refine blk_alloc ?_ _));refine blk_far ?_ NB52001_52016.out _;(with_reducible repeat (first|refine blk_drewN ?_ _|refine blk_drew ?_|refine blk_alloc ?_ _));exact BK52001.out) Try.underlying61 rfl (by kernel_rfl)) rfl ?_
  exact ⟨_,_,za9,by (with_reducible repeat (first|apply Kd.N_alloc|apply Kd.N_drewN|apply Kd.N_drew));exact Kd.N_mono (zfN (zfN (zfN (zfN (zfN (zfN (zfN (zfN (Kd.N_far (p:=⟨gb52016,0,none⟩) (Kd.N_mono (Kd.N_mono HO52009.out (fun k_ hk=>(⟨hk,hk.2⟩:_∧k_ ≠ gb52016))) (fun k_ hk=>(⟨hk,hk.1.1.2.2.1⟩:_∧k_ ≠ gb52001))) (fun _ hk=>hk.1.2) (.int .i64 t52020)))))))))) (fun _ hk=>⟨hk.1.1.1.1,hk.1.1.1.2.1⟩),by (with_reducible repeat (first|apply Kd.R_alloc|apply Kd.R_drewN|apply Kd.R_drew));exact Kd.R_mono (zfR (zfR (zfR (zfR (zfR (zfR (zfR (zfR (Kd.R_far (p:=⟨gb52016,0,none⟩) (Kd.R_types (Kd.R_types HO52012.out BK52016.out (by decide)) BK52001.out (by decide)) (fun _ hk=>hk.1.2) (.int .i64 t52020)))))))))) (fun _ hk=>hk.1.1.1),za14,za25,za21⟩
 rw [if_neg c4] at H
 have c4b0:=zbn c4
 have c4b1:=zqt c4
 by_cases c19:t52017=1
 ·rw [if_pos c19] at H
  have c19b0:=zbt c19
  have c19b1:=zqn c19
  clear c19
  replace H:=zo H
  obtain ⟨⟨t52023,t52024,t52025⟩,A200,H⟩:=H
  try dsimp only at H
  have A20:=zk A200
  clear A200
  simp only [Option.some.injEq,Prod.mk.injEq] at H
  obtain ⟨rfl,rfl,rfl,rfl,rfl,rfl,rfl,rfl,rfl,rfl⟩:=H
  go_enter Try.func52,Try.ntmps52
  go_wp2_with (first|((with_reducible refine gate_dst (N:=2) rfl ?_);refine zE (N:=2) (cs:=#[.int .i64 0,.string (⟨#[]⟩:ByteArray),.string (⟨#[]⟩:ByteArray),.int .i64 0,.string (⟨#[]⟩:ByteArray),.slice none 0 0,.slice none 0 0,.int .i64 0]) (t:=61) ?_;intro gb52001 hg w21 hbox hb;replace HB:=zk (below_step za12 hb);have BK52001:=zk (hbox);have GW52001:=zk ((by rw [hg];exact (keep_size (w:=w) (g:=g) (row:=none) za6):w.heap.size≤gb52001));have GE52001:=zk ((Nat.le_trans HW0.out (by rw [hg];exact (keep_size (w:=w) (g:=g) (row:=none) za6):w.heap.size≤gb52001):w0.heap.size≤gb52001));have NB0_52001:=zk ((by rw [hg];exact Nat.ne_of_lt (IsS69.lt (show IsS69 w0 _ g s0_0 s0_1 s0_2 from za5)):g ≠ gb52001));have NB52001_0:=zk ((by rw [hg];exact Nat.ne_of_gt (IsS69.lt (show IsS69 w0 _ g s0_0 s0_1 s0_2 from za5)):gb52001 ≠ g));replace HI0:=zk (IsS69.below za5 hb);replace HK:=zk (KeepBut.trans za6 (KeepBut.of_below hb g none) (.inl rfl));clear hb hbox hg)|((with_reducible refine gate_callee (f:=53) rfl ?_);refine goesL_ (some 5) rfl rfl Try.func53 (by kernel_rfl) rfl #[.pointer (some ⟨g,0,none⟩),.string (⟨#[88,89,90]⟩:ByteArray)] rfl za4 ?_;(with_reducible refine (spec_l9Draw.calls k g s0_0 s0_1 s0_2 (⟨#[88,89,90]⟩:ByteArray) t52002 t52003 t52004 t52005 t52006 t52007 t52010 t52013 t52014 t52015 w0 _ za18 za40 A2.out).mono ?_);rintro e w22 ⟨v52008,v52011,rfl,ho0,ho1,hi,hb,hk⟩;refine ⟨_,rfl,?_⟩;have HO52009:=zk (Kd.N_lower (Kd.N_mono (ok':=fun k_=>(w.heap.size≤k_)∧some k_ ≠ (v52011:Value).ownBlock∧k_ ≠ gb52001∧k_ ≠ g) ho0 (fun k_ hk_=>⟨(Nat.le_trans (keep_size (w:=w) (g:=g) (row:=none) za13) hk_.1),hk_.2,(Kd.freshB (g:=gb52001) (o:=.cells #[.int .i64 0,.string (⟨#[]⟩:ByteArray),.string (⟨#[]⟩:ByteArray),.int .i64 0,.string (⟨#[]⟩:ByteArray),.slice none 0 0,.slice none 0 0,.int .i64 0] 61 (0,0)) (za1 BK52001.out) k_ hk_.1),(IsS69.fresh za18 k_ hk_.1)⟩)) (keep_size (w:=w) (g:=g) (row:=none) za13));have HO52012:=zk (Kd.R_lower (Kd.R_newM (M:=fun k_=>(w.heap.size≤k_)) (Kd.R_mono (ok':=fun k_=>True) ho1 (fun _ hk_=>trivial)) (keep_size (w:=w) (g:=g) (row:=none) za13) (fun k_ h_=>h_)) (keep_size (w:=w) (g:=g) (row:=none) za13));replace HB:=zk (hb);replace BK52001:=zk (KeepBut.blk hk (g':=gb52001) (o:=.cells #[.int .i64 0,.string (⟨#[]⟩:ByteArray),.string (⟨#[]⟩:ByteArray),.int .i64 0,.string (⟨#[]⟩:ByteArray),.slice none 0 0,.slice none 0 0,.int .i64 0] 61 (0,0)) (za1 BK52001.out) NB52001_0.out (by simp));replace HK:=zk (KeepBut.trans za13 hk (.inl rfl));replace HI0:=zk (hi);(try clear hb);(try clear hb2);(try clear hk);(try clear hi);(try clear ho0);(try clear ho1))|((with_reducible refine gate_dst (N:=3) rfl ?_);refine zE (N:=3) (cs:=#[.int .i64 0,.string (⟨#[]⟩:ByteArray),.string (⟨#[]⟩:ByteArray),.int .i64 0,.string (⟨#[]⟩:ByteArray),.slice none 0 0,.slice none 0 0,.int .i64 0]) (t:=61) ?_;intro gb52016 hg w23 hbox hb;replace HO52009:=zk (Kd.N_below (Kd.N_elderB (za2 HO52009.out) gb52016 (Nat.le_of_eq hg.symm)) hb);replace HO52012:=zk (Kd.R_below (za0 HO52012.out) hb);replace HB:=zk (below_step za40 hb);have BK52016:=zk (hbox);have GW52016:=zk ((by rw [hg];exact (keep_size (w:=w) (g:=g) (row:=none) za13):w.heap.size≤gb52016));have GE52016:=zk ((Nat.le_trans HW0.out (by rw [hg];exact (keep_size (w:=w) (g:=g) (row:=none) za13):w.heap.size≤gb52016):w0.heap.size≤gb52016));have NB52001_52016:=zk ((by rw [hg];exact Nat.ne_of_lt (zl BK52001.out):gb52001 ≠ gb52016));have NB52016_52001:=zk ((by rw [hg];exact Nat.ne_of_gt (zl BK52001.out):gb52016 ≠ gb52001));have NB0_52016:=zk ((by rw [hg];exact Nat.ne_of_lt (IsS69.lt (show IsS69 w0 _ g s0_0 t52014 t52015 from za18)):g ≠ gb52016));have NB52016_0:=zk ((by rw [hg];exact Nat.ne_of_gt (IsS69.lt (show IsS69 w0 _ g s0_0 t52014 t52015 from za18)):gb52016 ≠ g));replace HI0:=zk (IsS69.below za18 hb);replace BK52001:=zk (zb BK52001.out hb);replace HK:=zk (KeepBut.trans za13 (KeepBut.of_below hb g none) (.inl rfl));clear hb hbox hg;have hnb24:=NB52016_52001.out;have hnc24:=NB52001_52016.out;have hnb25:=NB52016_0.out;have hnc25:=NB0_52016.out;obtain ⟨hcz26_0,hcz26_1,hcz26_2,hcz26_3,hcz26_4,hcz26_5,hcz26_6,hcz26_7,hfz26_0,hfz26_1,hfz26_2,hfz26_3,hfz26_4,hfz26_5,hfz26_6,hfz26_7⟩:=blk8 BK52016.out;obtain ⟨Ao27,co27,eo27⟩:=Kd.N_slice HO52009.out;subst eo27;obtain ⟨Ao28,co28,eo28⟩:=Kd.R_slice HO52012.out;subst eo28)|((with_reducible refine gate_callee (f:=42) rfl ?_);refine goesL_ (some 7) rfl rfl Try.func42 (by kernel_rfl) rfl #[.pointer (some ⟨g,0,none⟩),.int .i64 10] rfl za4 ?_;(with_reducible refine (spec_l1Below.calls g s0_0 t52014 t52015 10 t52017 t52018 t52019 w0 _ za14 za25 A3.out).mono ?_);rintro e w29 ⟨rfl,hi,hb,hk⟩;refine ⟨_,rfl,?_⟩;replace BK52001:=zk (KeepBut.blk hk (g':=gb52001) (o:=.cells #[.int .i64 0,.string (⟨#[]⟩:ByteArray),.string (⟨#[]⟩:ByteArray),.int .i64 0,.string (⟨#[]⟩:ByteArray),.slice none 0 0,.slice none 0 0,.int .i64 0] 61 (0,0)) za17 NB52001_0.out (by simp));replace HO52009:=zk (Kd.N_mono (Kd.N_keep (Kd.N_mono (ok:=fun k_=>((((w.heap.size≤k_))∧(some k_ ≠ (.slice Ao28 t52010.length co28:Value).ownBlock∧(k_ ≠ gb52001∧k_ ≠ g)))∧k_ ≠ gb52016)) za65 (fun k_ hk_=>(⟨hk_,hk_.1.2.2.2⟩:_∧k_ ≠ g))) hk (fun _ h=>h.2)) (fun _ h=>h.1));replace HO52012:=zk (Kd.R_mono (Kd.R_keep (IsS69.apart (show IsS69 w0 _ g s0_0 t52014 t52015 from za14) za68 (by decide)) hk (fun _ h=>h.2)) (fun _ h=>h.1));replace HK:=zk (KeepBut.trans za21 hk (.inl rfl));replace HB:=zk (hb);replace BK52016:=zk (KeepBut.blk hk (g':=gb52016) (o:=.cells #[.int .i64 t52002,.string t52003,.string t52004,.int .i64 t52005,.string t52006,.slice Ao27 t52007.length co27,.slice Ao28 t52010.length co28,.int .i64 t52013] 61 (0,0)) (zpu BK52016.out) NB52016_0.out (by simp));replace HI0:=zk (hi);(try clear hb);(try clear hb2);(try clear hk);(try clear hi))|((with_reducible refine gate_callee (f:=46) rfl ?_);refine goesL_ (some 16) rfl rfl Try.func46 (by kernel_rfl) rfl #[.pointer (some ⟨g,0,none⟩)] rfl za4 ?_;(with_reducible refine (spec_l8Any.calls k g s0_0 t52018 t52019 t52023 t52024 t52025 w0 _ za14 za25 A20.out).mono ?_);rintro e w30 ⟨rfl,hi,hb,hk⟩;refine ⟨_,rfl,?_⟩;replace BK52001:=zk (KeepBut.blk hk (g':=gb52001) (o:=.cells #[.int .i64 0,.string (⟨#[]⟩:ByteArray),.string (⟨#[]⟩:ByteArray),.int .i64 0,.string (⟨#[]⟩:ByteArray),.slice none 0 0,.slice none 0 0,.int .i64 0] 61 (0,0)) (za1 BK52001.out) NB52001_0.out (by simp));replace HO52009:=zk (Kd.N_mono (Kd.N_keep (Kd.N_mono (ok:=fun k_=>((((w.heap.size≤k_))∧(some k_ ≠ (.slice Ao28 t52010.length co28:Value).ownBlock∧(k_ ≠ gb52001∧k_ ≠ g)))∧k_ ≠ gb52016)) (za2 HO52009.out) (fun k_ hk_=>(⟨hk_,hk_.1.2.2.2⟩:_∧k_ ≠ g))) hk (fun _ h=>h.2)) (fun _ h=>h.1));replace HO52012:=zk (Kd.R_mono (Kd.R_keep (IsS69.apart (show IsS69 w0 _ g s0_0 t52018 t52019 from za14) (za0 HO52012.out) (by decide)) hk (fun _ h=>h.2)) (fun _ h=>h.1));replace BK52016:=zk (KeepBut.blk hk (g':=gb52016) (o:=.cells #[.int .i64 t52002,.string t52003,.string t52004,.int .i64 t52005,.string t52006,.slice Ao27 t52007.length co27,.slice Ao28 t52010.length co28,.int .i64 t52013] 61 (0,0)) (za1 BK52016.out) NB52016_0.out (by simp));replace HK:=zk (KeepBut.trans za21 hk (.inl rfl));replace HB:=zk (hb);replace HI0:=zk (hi);(try clear hb);(try clear hb2);(try clear hk);(try clear hi);obtain ⟨hcz31_0,hcz31_1,hcz31_2,hcz31_3,hcz31_4,hcz31_5,hcz31_6,hcz31_7,hfz31_0,hfz31_1,hfz31_2,hfz31_3,hfz31_4,hfz31_5,hfz31_6,hfz31_7⟩:=blk8 BK52016.out;have hnb32:=NB52001_0.out;have hnc32:=NB0_52001.out;obtain ⟨hcz33_0,hcz33_1,hcz33_2,hcz33_3,hcz33_4,hcz33_5,hcz33_6,hcz33_7,hfz33_0,hfz33_1,hfz33_2,hfz33_3,hfz33_4,hfz33_5,hfz33_6,hfz33_7⟩:=blk8 BK52001.out))
  refine bodyPost_ret (results_cell_row rfl _ _ gb52001 61 #[.int .i64 t52002,.string t52023,.string t52004,.int .i64 t52005,.string t52006,.slice Ao27 t52007.length co27,.slice Ao28 t52010.length co28,.int .i64 t52013] (0,0) _ rfl (by (with_reducible repeat (first|refine blk_drewN ?_ _|refine blk_drew ?_|refine blk_alloc ?_ _));refine blk_put (cs:=#[.int .i64 t52002,.string t52023,.string t52004,.int .i64 t52005,.string t52006,.slice Ao27 t52007.length co27,.slice Ao28 t52010.length co28,.int .i64 0]) ?_ 7 _ rfl;(with_reducible repeat (first|refine blk_drewN ?_ _|refine blk_drew ?_|refine blk_alloc ?_ _));refine blk_put (cs:=#[.int .i64 t52002,.string t52023,.string t52004,.int .i64 t52005,.string t52006,.slice Ao27 t52007.length co27,.slice none 0 0,.int .i64 0]) ?_ 6 _ rfl;(with_reducible repeat (first|refine blk_drewN ?_ _|refine blk_drew ?_|refine blk_alloc ?_ _));refine blk_put (cs:=#[.int .i64 t52002,.string t52023,.string t52004,.int .i64 t52005,.string t52006,.slice none 0 0,.slice none 0 0,.int .i64 0]) ?_ 5 _ rfl;(with_reducible repeat (first|refine blk_drewN ?_ _|refine blk_drew ?_|refine blk_alloc ?_ _));refine blk_put (cs:=#[.int .i64 t52002,.string t52023,.string t52004,.int .i64 t52005,.string (⟨#[]⟩:ByteArray),.slice none 0 0,.slice none 0 0,.int .i64 0]) ?_ 4 _ rfl;(with_reducible repeat (first|refine blk_drewN ?_ _|refine blk_drew ?_|refine blk_alloc ?_ _));refine blk_put (cs:=#[.int .i64 t52002,.string t52023,.string t52004,.int .i64 0,.string (⟨#[]⟩:ByteArray),.slice none 0 0,.slice none 0 0,.int .i64 0]) ?_ 3 _ rfl;(with_reducible repeat (first|refine blk_drewN ?_ _|refine blk_drew ?_|refine blk_alloc ?_ _));refine blk_put (cs:=#[.int .i64 t52002,.string t52023,.string (⟨#[]⟩:ByteArray),.int .i64 0,.string (⟨#[]⟩:ByteArray),.slice none 0 0,.slice none 0 0,.int .i64 0]) ?_ 2 _ rfl;(with_reducible repeat (first|refine blk_drewN ?_ _|refine blk_drew ?_|refine blk_alloc ?_ _));refine blk_put (cs:=#[.int .i64 t52002,.string (⟨#[]⟩:ByteArray),.string (⟨#[]⟩:ByteArray),.int .i64 0,.string (⟨#[]⟩:ByteArray),.slice none 0 0,.slice none 0 0,.int .i64 0]) ?_ 1 _ rfl;(with_reducible repeat (first|refine blk_drewN ?_ _|refine blk_drew ?_|refine blk_alloc ?_ _));refine blk_put (cs:=#[.int .i64 0,.string (⟨#[]⟩:ByteArray),.string (⟨#[]⟩:ByteArray),.int .i64 0,.string (⟨#[]⟩:ByteArray),.slice none 0 0,.slice none 0 0,.int .i64 0]) ?_ 0 _ rfl;(with_reducible repeat (first|refine blk_drewN ?_ _|refine blk_drew ?_|refine blk_alloc ?_ _));refine blk_far ?_ NB52001_52016.out _;(with_reducible repeat (first|refine blk_drewN ?_ _|refine blk_drew ?_|refine blk_alloc ?_ _));exact BK52001.out) Try.underlying61 rfl (by kernel_rfl)) rfl ?_
  exact ⟨_,_,za9,by (with_reducible repeat (first|apply Kd.N_alloc|apply Kd.N_drewN|apply Kd.N_drew));exact Kd.N_mono (zfN (zfN (zfN (zfN (zfN (zfN (zfN (zfN (Kd.N_far (p:=⟨gb52016,1,none⟩) (Kd.N_mono (Kd.N_mono HO52009.out (fun k_ hk=>(⟨hk,hk.2⟩:_∧k_ ≠ gb52016))) (fun k_ hk=>(⟨hk,hk.1.1.2.2.1⟩:_∧k_ ≠ gb52001))) (fun _ hk=>hk.1.2) (.string t52023)))))))))) (fun _ hk=>⟨hk.1.1.1.1,hk.1.1.1.2.1⟩),by (with_reducible repeat (first|apply Kd.R_alloc|apply Kd.R_drewN|apply Kd.R_drew));exact Kd.R_mono (zfR (zfR (zfR (zfR (zfR (zfR (zfR (zfR (Kd.R_far (p:=⟨gb52016,1,none⟩) (Kd.R_types (Kd.R_types HO52012.out BK52016.out (by decide)) BK52001.out (by decide)) (fun _ hk=>hk.1.2) (.string t52023)))))))))) (fun _ hk=>hk.1.1.1),za14,za25,za21⟩
 rw [if_neg c19] at H
 have c19b0:=zbn c19
 have c19b1:=zqt c19
 by_cases c34:t52017=2
 ·rw [if_pos c34] at H
  have c34b0:=zbt c34
  have c34b1:=zqn c34
  clear c34
  obtain ⟨y52026,hy52026⟩:∃ y_:List Int,y_=(([99,100,(-99)]:List Int)):=⟨_,rfl⟩
  replace H:((spec_l1PickInt.f s0_0 t52018 t52019 y52026).bind fun bt52029=>(some (t52002,t52003,t52004,t52005,t52006,t52007,t52010,bt52029.1,bt52029.2.1,bt52029.2.2)))=some (r1,r2,r3,r4,r5,r6,r7,r8,r9,r10):=by first|(rw [hy52026];with_reducible exact H)|(have H2_:=(Option.bind_some _ _).symm.trans H;rw [hy52026];with_reducible exact H2_)|(have H2_:=(Option.bind_some _ _).symm.trans H;with_reducible exact H2_)|with_reducible exact H|(rw [hy52026];exact H)|exact H
  have Ny52026:=zk hy52026
  clear hy52026
  replace H:=zo H
  obtain ⟨⟨t52029,t52030,t52031⟩,A350,H⟩:=H
  try dsimp only at H
  have A35:=zk A350
  clear A350
  simp only [Option.some.injEq,Prod.mk.injEq] at H
  obtain ⟨rfl,rfl,rfl,rfl,rfl,rfl,rfl,rfl,rfl,rfl⟩:=H
  go_enter Try.func52,Try.ntmps52
  go_wp2_with (first|((with_reducible refine gate_dst (N:=2) rfl ?_);refine zE (N:=2) (cs:=#[.int .i64 0,.string (⟨#[]⟩:ByteArray),.string (⟨#[]⟩:ByteArray),.int .i64 0,.string (⟨#[]⟩:ByteArray),.slice none 0 0,.slice none 0 0,.int .i64 0]) (t:=61) ?_;intro gb52001 hg w36 hbox hb;replace HB:=zk (below_step za12 hb);have BK52001:=zk (hbox);have GW52001:=zk ((by rw [hg];exact (keep_size (w:=w) (g:=g) (row:=none) za6):w.heap.size≤gb52001));have GE52001:=zk ((Nat.le_trans HW0.out (by rw [hg];exact (keep_size (w:=w) (g:=g) (row:=none) za6):w.heap.size≤gb52001):w0.heap.size≤gb52001));have NB0_52001:=zk ((by rw [hg];exact Nat.ne_of_lt (IsS69.lt (show IsS69 w0 _ g s0_0 s0_1 s0_2 from za5)):g ≠ gb52001));have NB52001_0:=zk ((by rw [hg];exact Nat.ne_of_gt (IsS69.lt (show IsS69 w0 _ g s0_0 s0_1 s0_2 from za5)):gb52001 ≠ g));replace HI0:=zk (IsS69.below za5 hb);replace HK:=zk (KeepBut.trans za6 (KeepBut.of_below hb g none) (.inl rfl));clear hb hbox hg)|((with_reducible refine gate_callee (f:=53) rfl ?_);refine goesL_ (some 5) rfl rfl Try.func53 (by kernel_rfl) rfl #[.pointer (some ⟨g,0,none⟩),.string (⟨#[88,89,90]⟩:ByteArray)] rfl za4 ?_;(with_reducible refine (spec_l9Draw.calls k g s0_0 s0_1 s0_2 (⟨#[88,89,90]⟩:ByteArray) t52002 t52003 t52004 t52005 t52006 t52007 t52010 t52013 t52014 t52015 w0 _ za18 za40 A2.out).mono ?_);rintro e w37 ⟨v52008,v52011,rfl,ho0,ho1,hi,hb,hk⟩;refine ⟨_,rfl,?_⟩;have HO52009:=zk (Kd.N_lower (Kd.N_mono (ok':=fun k_=>(w.heap.size≤k_)∧some k_ ≠ (v52011:Value).ownBlock∧k_ ≠ gb52001∧k_ ≠ g) ho0 (fun k_ hk_=>⟨(Nat.le_trans (keep_size (w:=w) (g:=g) (row:=none) za13) hk_.1),hk_.2,(Kd.freshB (g:=gb52001) (o:=.cells #[.int .i64 0,.string (⟨#[]⟩:ByteArray),.string (⟨#[]⟩:ByteArray),.int .i64 0,.string (⟨#[]⟩:ByteArray),.slice none 0 0,.slice none 0 0,.int .i64 0] 61 (0,0)) (za1 BK52001.out) k_ hk_.1),(IsS69.fresh za18 k_ hk_.1)⟩)) (keep_size (w:=w) (g:=g) (row:=none) za13));have HO52012:=zk (Kd.R_lower (Kd.R_newM (M:=fun k_=>(w.heap.size≤k_)) (Kd.R_mono (ok':=fun k_=>True) ho1 (fun _ hk_=>trivial)) (keep_size (w:=w) (g:=g) (row:=none) za13) (fun k_ h_=>h_)) (keep_size (w:=w) (g:=g) (row:=none) za13));replace HB:=zk (hb);replace BK52001:=zk (KeepBut.blk hk (g':=gb52001) (o:=.cells #[.int .i64 0,.string (⟨#[]⟩:ByteArray),.string (⟨#[]⟩:ByteArray),.int .i64 0,.string (⟨#[]⟩:ByteArray),.slice none 0 0,.slice none 0 0,.int .i64 0] 61 (0,0)) (za1 BK52001.out) NB52001_0.out (by simp));replace HK:=zk (KeepBut.trans za13 hk (.inl rfl));replace HI0:=zk (hi);(try clear hb);(try clear hb2);(try clear hk);(try clear hi);(try clear ho0);(try clear ho1))|((with_reducible refine gate_dst (N:=3) rfl ?_);refine zE (N:=3) (cs:=#[.int .i64 0,.string (⟨#[]⟩:ByteArray),.string (⟨#[]⟩:ByteArray),.int .i64 0,.string (⟨#[]⟩:ByteArray),.slice none 0 0,.slice none 0 0,.int .i64 0]) (t:=61) ?_;intro gb52016 hg w38 hbox hb;replace HO52009:=zk (Kd.N_below (Kd.N_elderB (za2 HO52009.out) gb52016 (Nat.le_of_eq hg.symm)) hb);replace HO52012:=zk (Kd.R_below (za0 HO52012.out) hb);replace HB:=zk (below_step za40 hb);have BK52016:=zk (hbox);have GW52016:=zk ((by rw [hg];exact (keep_size (w:=w) (g:=g) (row:=none) za13):w.heap.size≤gb52016));have GE52016:=zk ((Nat.le_trans HW0.out (by rw [hg];exact (keep_size (w:=w) (g:=g) (row:=none) za13):w.heap.size≤gb52016):w0.heap.size≤gb52016));have NB52001_52016:=zk ((by rw [hg];exact Nat.ne_of_lt (zl BK52001.out):gb52001 ≠ gb52016));have NB52016_52001:=zk ((by rw [hg];exact Nat.ne_of_gt (zl BK52001.out):gb52016 ≠ gb52001));have NB0_52016:=zk ((by rw [hg];exact Nat.ne_of_lt (IsS69.lt (show IsS69 w0 _ g s0_0 t52014 t52015 from za18)):g ≠ gb52016));have NB52016_0:=zk ((by rw [hg];exact Nat.ne_of_gt (IsS69.lt (show IsS69 w0 _ g s0_0 t52014 t52015 from za18)):gb52016 ≠ g));replace HI0:=zk (IsS69.below za18 hb);replace BK52001:=zk (zb BK52001.out hb);replace HK:=zk (KeepBut.trans za13 (KeepBut.of_below hb g none) (.inl rfl));clear hb hbox hg;have hnb39:=NB52016_52001.out;have hnc39:=NB52001_52016.out;have hnb40:=NB52016_0.out;have hnc40:=NB0_52016.out;obtain ⟨hcz41_0,hcz41_1,hcz41_2,hcz41_3,hcz41_4,hcz41_5,hcz41_6,hcz41_7,hfz41_0,hfz41_1,hfz41_2,hfz41_3,hfz41_4,hfz41_5,hfz41_6,hfz41_7⟩:=blk8 BK52016.out;obtain ⟨Ao42,co42,eo42⟩:=Kd.N_slice HO52009.out;subst eo42;obtain ⟨Ao43,co43,eo43⟩:=Kd.R_slice HO52012.out;subst eo43)|((with_reducible refine gate_callee (f:=42) rfl ?_);refine goesL_ (some 7) rfl rfl Try.func42 (by kernel_rfl) rfl #[.pointer (some ⟨g,0,none⟩),.int .i64 10] rfl za4 ?_;(with_reducible refine (spec_l1Below.calls g s0_0 t52014 t52015 10 t52017 t52018 t52019 w0 _ za14 za25 A3.out).mono ?_);rintro e w44 ⟨rfl,hi,hb,hk⟩;refine ⟨_,rfl,?_⟩;replace BK52001:=zk (KeepBut.blk hk (g':=gb52001) (o:=.cells #[.int .i64 0,.string (⟨#[]⟩:ByteArray),.string (⟨#[]⟩:ByteArray),.int .i64 0,.string (⟨#[]⟩:ByteArray),.slice none 0 0,.slice none 0 0,.int .i64 0] 61 (0,0)) za17 NB52001_0.out (by simp));replace HO52009:=zk (Kd.N_mono (Kd.N_keep (Kd.N_mono (ok:=fun k_=>((((w.heap.size≤k_))∧(some k_ ≠ (.slice Ao43 t52010.length co43:Value).ownBlock∧(k_ ≠ gb52001∧k_ ≠ g)))∧k_ ≠ gb52016)) za65 (fun k_ hk_=>(⟨hk_,hk_.1.2.2.2⟩:_∧k_ ≠ g))) hk (fun _ h=>h.2)) (fun _ h=>h.1));replace HO52012:=zk (Kd.R_mono (Kd.R_keep (IsS69.apart (show IsS69 w0 _ g s0_0 t52014 t52015 from za14) za68 (by decide)) hk (fun _ h=>h.2)) (fun _ h=>h.1));replace HK:=zk (KeepBut.trans za21 hk (.inl rfl));replace HB:=zk (hb);replace BK52016:=zk (KeepBut.blk hk (g':=gb52016) (o:=.cells #[.int .i64 t52002,.string t52003,.string t52004,.int .i64 t52005,.string t52006,.slice Ao42 t52007.length co42,.slice Ao43 t52010.length co43,.int .i64 t52013] 61 (0,0)) (zpu BK52016.out) NB52016_0.out (by simp));replace HI0:=zk (hi);(try clear hb);(try clear hb2);(try clear hk);(try clear hi))|((with_reducible refine gate_dst (N:=21) rfl ?_);refine Kd.R_lit (Kd.int .i64) _ 3 ?hg (N:=21) ?hd (xs:=([99,100,(-99)]:List Int)) (inner:=[.int .i64 99,.int .i64 100,.int .i64 (-99)]) (ok:=fun _=>True) (okp:=fun _=>True) ?hr ?hp (fun _ hk=>hk) trivial (Below.refl _ _) (Nat.le_refl _) (by simp) ?_;(case hd=>rfl);(case hg=>rfl);(case hr=>first|(go_simp;done)|(go_simp;rfl));(case hp=>exact (Reps.one (show Kd.M (Kd.int .i64) _ _ _ 99 [.int .i64 99] from rfl) (Reps.one (show Kd.M (Kd.int .i64) _ _ _ 100 [.int .i64 100] from rfl) (Reps.one (show Kd.M (Kd.int .i64) _ _ _ (-99) [.int .i64 (-99)] from rfl) (Reps.none _ _)))));intro v52027 w45 ho46 hb hg_ hnew_;clear hg_ hnew_;(first|rw [← Ny52026.out] at ho46|(simp only [Int.reduceToNat] at ho46;rw [← Ny52026.out] at ho46));replace HO52009:=zk (Kd.N_elder' (za2 HO52009.out) (Kd.R_base ho46) hb);have HO52028:=zk (Kd.R_lower (Kd.R_new' (Kd.R_newM (M:=fun k_=>(w.heap.size≤k_)) ho46 (keep_size (w:=w) (g:=g) (row:=none) za21) (fun k_ h_=>h_)) (Kd.R_lt (za0 HO52012.out))) (keep_size (w:=w) (g:=g) (row:=none) za21));replace BK52001:=zk (zb BK52001.out hb);replace BK52016:=zk (zb BK52016.out hb);replace HB:=zk (below_step za25 hb);replace HO52012:=zk (Kd.R_elder' (za0 HO52012.out) (Kd.R_base ho46) hb);replace HI0:=zk (IsS69.below za14 hb);replace HK:=zk (KeepBut.trans za21 (KeepBut.of_below hb g none) (.inl rfl));clear hb ho46;obtain ⟨Ao47,co47,eo47⟩:=Kd.R_slice HO52028.out;subst eo47)|((with_reducible refine gate_callee (f:=61) rfl ?_);refine goesL_ (some 22) rfl rfl Try.func61 (by kernel_rfl) rfl #[.pointer (some ⟨g,0,none⟩),.slice Ao47 y52026.length co47] rfl za4 ?_;(with_reducible refine (spec_l1PickInt.calls g s0_0 t52018 t52019 _ _ y52026 t52029 t52030 t52031 w0 _ za14 za25 ?side3 ?side4 ?side5 A35.out).mono ?_);(case side3=>repeat (first|exact (Kd.R_reads' HO52028.out).2.2|(with_reducible refine Kd.C_alloc ?_ _)|(with_reducible refine Kd.C_drewN ?_ _)|(with_reducible refine Kd.C_drew ?_)));(case side4=>exact (Kd.R_reads' HO52028.out).2.1);(case side5=>exact far_slice (IsS69.own_ne HI0.out HO52028.out (by decide)));rintro e w48 ⟨rfl,hi,hb,hk⟩;refine ⟨_,rfl,?_⟩;replace BK52001:=zk (KeepBut.blk hk (g':=gb52001) (o:=.cells #[.int .i64 0,.string (⟨#[]⟩:ByteArray),.string (⟨#[]⟩:ByteArray),.int .i64 0,.string (⟨#[]⟩:ByteArray),.slice none 0 0,.slice none 0 0,.int .i64 0] 61 (0,0)) (za1 BK52001.out) NB52001_0.out (by simp));replace HO52009:=zk (Kd.N_mono (Kd.N_keep (Kd.N_mono (ok:=fun k_=>(((((w.heap.size≤k_))∧(some k_ ≠ (.slice Ao43 t52010.length co43:Value).ownBlock∧(k_ ≠ gb52001∧k_ ≠ g)))∧k_ ≠ gb52016)∧some k_ ≠ (.slice Ao47 y52026.length co47:Value).ownBlock)) (za2 HO52009.out) (fun k_ hk_=>(⟨hk_,hk_.1.1.2.2.2⟩:_∧k_ ≠ g))) hk (fun _ h=>h.2)) (fun _ h=>h.1));replace HO52012:=zk (Kd.R_mono (Kd.R_keep (IsS69.apart (show IsS69 w0 _ g s0_0 t52018 t52019 from za14) (za0 HO52012.out) (by decide)) hk (fun _ h=>h.2)) (fun _ h=>h.1));replace BK52016:=zk (KeepBut.blk hk (g':=gb52016) (o:=.cells #[.int .i64 t52002,.string t52003,.string t52004,.int .i64 t52005,.string t52006,.slice Ao42 t52007.length co42,.slice Ao43 t52010.length co43,.int .i64 t52013] 61 (0,0)) (za1 BK52016.out) NB52016_0.out (by simp));replace HO52028:=zk (Kd.R_mono (Kd.R_keep (IsS69.apart (show IsS69 w0 _ g s0_0 t52018 t52019 from za14) (za0 HO52028.out) (by decide)) hk (fun _ h=>h.2)) (fun _ h=>h.1));replace HK:=zk (KeepBut.trans za21 hk (.inl rfl));replace HB:=zk (hb);replace HI0:=zk (hi);(try clear hb);(try clear hb2);(try clear hk);(try clear hi);obtain ⟨hcz49_0,hcz49_1,hcz49_2,hcz49_3,hcz49_4,hcz49_5,hcz49_6,hcz49_7,hfz49_0,hfz49_1,hfz49_2,hfz49_3,hfz49_4,hfz49_5,hfz49_6,hfz49_7⟩:=blk8 BK52016.out;have hnb50:=NB52001_0.out;have hnc50:=NB0_52001.out;obtain ⟨hcz51_0,hcz51_1,hcz51_2,hcz51_3,hcz51_4,hcz51_5,hcz51_6,hcz51_7,hfz51_0,hfz51_1,hfz51_2,hfz51_3,hfz51_4,hfz51_5,hfz51_6,hfz51_7⟩:=blk8 BK52001.out))
  refine bodyPost_ret (results_cell_row rfl _ _ gb52001 61 #[.int .i64 t52002,.string t52003,.string t52004,.int .i64 t52005,.string t52006,.slice Ao42 t52007.length co42,.slice Ao43 t52010.length co43,.int .i64 t52029] (0,0) _ rfl (by (with_reducible repeat (first|refine blk_drewN ?_ _|refine blk_drew ?_|refine blk_alloc ?_ _));refine blk_put (cs:=#[.int .i64 t52002,.string t52003,.string t52004,.int .i64 t52005,.string t52006,.slice Ao42 t52007.length co42,.slice Ao43 t52010.length co43,.int .i64 0]) ?_ 7 _ rfl;(with_reducible repeat (first|refine blk_drewN ?_ _|refine blk_drew ?_|refine blk_alloc ?_ _));refine blk_put (cs:=#[.int .i64 t52002,.string t52003,.string t52004,.int .i64 t52005,.string t52006,.slice Ao42 t52007.length co42,.slice none 0 0,.int .i64 0]) ?_ 6 _ rfl;(with_reducible repeat (first|refine blk_drewN ?_ _|refine blk_drew ?_|refine blk_alloc ?_ _));refine blk_put (cs:=#[.int .i64 t52002,.string t52003,.string t52004,.int .i64 t52005,.string t52006,.slice none 0 0,.slice none 0 0,.int .i64 0]) ?_ 5 _ rfl;(with_reducible repeat (first|refine blk_drewN ?_ _|refine blk_drew ?_|refine blk_alloc ?_ _));refine blk_put (cs:=#[.int .i64 t52002,.string t52003,.string t52004,.int .i64 t52005,.string (⟨#[]⟩:ByteArray),.slice none 0 0,.slice none 0 0,.int .i64 0]) ?_ 4 _ rfl;(with_reducible repeat (first|refine blk_drewN ?_ _|refine blk_drew ?_|refine blk_alloc ?_ _));refine blk_put (cs:=#[.int .i64 t52002,.string t52003,.string t52004,.int .i64 0,.string (⟨#[]⟩:ByteArray),.slice none 0 0,.slice none 0 0,.int .i64 0]) ?_ 3 _ rfl;(with_reducible repeat (first|refine blk_drewN ?_ _|refine blk_drew ?_|refine blk_alloc ?_ _));refine blk_put (cs:=#[.int .i64 t52002,.string t52003,.string (⟨#[]⟩:ByteArray),.int .i64 0,.string (⟨#[]⟩:ByteArray),.slice none 0 0,.slice none 0 0,.int .i64 0]) ?_ 2 _ rfl;(with_reducible repeat (first|refine blk_drewN ?_ _|refine blk_drew ?_|refine blk_alloc ?_ _));refine blk_put (cs:=#[.int .i64 t52002,.string (⟨#[]⟩:ByteArray),.string (⟨#[]⟩:ByteArray),.int .i64 0,.string (⟨#[]⟩:ByteArray),.slice none 0 0,.slice none 0 0,.int .i64 0]) ?_ 1 _ rfl;(with_reducible repeat (first|refine blk_drewN ?_ _|refine blk_drew ?_|refine blk_alloc ?_ _));refine blk_put (cs:=#[.int .i64 0,.string (⟨#[]⟩:ByteArray),.string (⟨#[]⟩:ByteArray),.int .i64 0,.string (⟨#[]⟩:ByteArray),.slice none 0 0,.slice none 0 0,.int .i64 0]) ?_ 0 _ rfl;(with_reducible repeat (first|refine blk_drewN ?_ _|refine blk_drew ?_|refine blk_alloc ?_ _));refine blk_far ?_ NB52001_52016.out _;(with_reducible repeat (first|refine blk_drewN ?_ _|refine blk_drew ?_|refine blk_alloc ?_ _));exact BK52001.out) Try.underlying61 rfl (by kernel_rfl)) rfl ?_
  exact ⟨_,_,za9,by (with_reducible repeat (first|apply Kd.N_alloc|apply Kd.N_drewN|apply Kd.N_drew));exact Kd.N_mono (zfN (zfN (zfN (zfN (zfN (zfN (zfN (zfN (Kd.N_far (p:=⟨gb52016,7,none⟩) (Kd.N_mono (Kd.N_mono HO52009.out (fun k_ hk=>(⟨hk,hk.1.2⟩:_∧k_ ≠ gb52016))) (fun k_ hk=>(⟨hk,hk.1.1.1.2.2.1⟩:_∧k_ ≠ gb52001))) (fun _ hk=>hk.1.2) (.int .i64 t52029)))))))))) (fun _ hk=>⟨hk.1.1.1.1.1,hk.1.1.1.1.2.1⟩),by (with_reducible repeat (first|apply Kd.R_alloc|apply Kd.R_drewN|apply Kd.R_drew));exact Kd.R_mono (zfR (zfR (zfR (zfR (zfR (zfR (zfR (zfR (Kd.R_far (p:=⟨gb52016,7,none⟩) (Kd.R_types (Kd.R_types HO52012.out BK52016.out (by decide)) BK52001.out (by decide)) (fun _ hk=>hk.1.2) (.int .i64 t52029)))))))))) (fun _ hk=>hk.1.1.1.1),za14,za25,za21⟩
 rw [if_neg c34] at H
 have c34b0:=zbn c34
 have c34b1:=zqt c34
 by_cases c52:t52017=3
 rw [if_pos c52] at H
 have c52b0:=zbt c52
 have c52b1:=zqn c52
 clear c52
 obtain ⟨y52032,hy52032⟩:∃ y_:List Int,y_=(([0,9,10]:List Int)):=⟨_,rfl⟩
 replace H:((spec_l1PickInt.f s0_0 t52018 t52019 y52032).bind fun bt52035=>(if t52010.length < 17592186044416 then (some (t52002,t52003,t52004,t52005,t52006,t52007,(t52010 ++ [bt52035.1]),t52013,bt52035.2.1,bt52035.2.2)) else (none)))=some (r1,r2,r3,r4,r5,r6,r7,r8,r9,r10):=by first|(rw [hy52032];with_reducible exact H)|(have H2_:=(Option.bind_some _ _).symm.trans H;rw [hy52032];with_reducible exact H2_)|(have H2_:=(Option.bind_some _ _).symm.trans H;with_reducible exact H2_)|with_reducible exact H|(rw [hy52032];exact H)|exact H
 have Ny52032:=zk hy52032
 clear hy52032
 replace H:=zo H
 obtain ⟨⟨t52035,t52036,t52037⟩,A530,H⟩:=H
 try dsimp only at H
 have A53:=zk A530
 clear A530
 by_cases c54:t52010.length < 17592186044416
 ·rw [if_pos c54] at H
  have LMc54:=zk c54
  clear c54
  obtain ⟨y52038,hy52038⟩:∃ y_:List Int,y_=(t52010 ++ [t52035]):=⟨_,rfl⟩
  replace H:(some (t52002,t52003,t52004,t52005,t52006,t52007,y52038,t52013,t52036,t52037))=some (r1,r2,r3,r4,r5,r6,r7,r8,r9,r10):=by first|(rw [hy52038];with_reducible exact H)|(have H2_:=(Option.bind_some _ _).symm.trans H;rw [hy52038];with_reducible exact H2_)|(have H2_:=(Option.bind_some _ _).symm.trans H;with_reducible exact H2_)|with_reducible exact H|(rw [hy52038];exact H)|exact H
  have Ny52038:=zk hy52038
  clear hy52038
  simp only [Option.some.injEq,Prod.mk.injEq] at H
  obtain ⟨rfl,rfl,rfl,rfl,rfl,rfl,rfl,rfl,rfl,rfl⟩:=H
  go_enter Try.func52,Try.ntmps52
  try go_wp2_with (first|((with_reducible refine gate_dst (N:=2) rfl ?_);refine zE (N:=2) (cs:=#[.int .i64 0,.string (⟨#[]⟩:ByteArray),.string (⟨#[]⟩:ByteArray),.int .i64 0,.string (⟨#[]⟩:ByteArray),.slice none 0 0,.slice none 0 0,.int .i64 0]) (t:=61) ?_;intro gb52001 hg w55 hbox hb;replace HB:=zk (below_step za12 hb);have BK52001:=zk (hbox);have GW52001:=zk ((by rw [hg];exact (keep_size (w:=w) (g:=g) (row:=none) za6):w.heap.size≤gb52001));have GE52001:=zk ((Nat.le_trans HW0.out (by rw [hg];exact (keep_size (w:=w) (g:=g) (row:=none) za6):w.heap.size≤gb52001):w0.heap.size≤gb52001));have NB0_52001:=zk ((by rw [hg];exact Nat.ne_of_lt (IsS69.lt (show IsS69 w0 _ g s0_0 s0_1 s0_2 from za5)):g ≠ gb52001));have NB52001_0:=zk ((by rw [hg];exact Nat.ne_of_gt (IsS69.lt (show IsS69 w0 _ g s0_0 s0_1 s0_2 from za5)):gb52001 ≠ g));replace HI0:=zk (IsS69.below za5 hb);replace HK:=zk (KeepBut.trans za6 (KeepBut.of_below hb g none) (.inl rfl));clear hb hbox hg)|((with_reducible refine gate_callee (f:=53) rfl ?_);refine goesL_ (some 5) rfl rfl Try.func53 (by kernel_rfl) rfl #[.pointer (some ⟨g,0,none⟩),.string (⟨#[88,89,90]⟩:ByteArray)] rfl za4 ?_;(with_reducible refine (spec_l9Draw.calls k g s0_0 s0_1 s0_2 (⟨#[88,89,90]⟩:ByteArray) t52002 t52003 t52004 t52005 t52006 t52007 t52010 t52013 t52014 t52015 w0 _ za18 za40 A2.out).mono ?_);rintro e w56 ⟨v52008,v52011,rfl,ho0,ho1,hi,hb,hk⟩;refine ⟨_,rfl,?_⟩;have HO52009:=zk (Kd.N_lower (Kd.N_mono (ok':=fun k_=>(w.heap.size≤k_)∧some k_ ≠ (v52011:Value).ownBlock∧k_ ≠ gb52001∧k_ ≠ g) ho0 (fun k_ hk_=>⟨(Nat.le_trans (keep_size (w:=w) (g:=g) (row:=none) za13) hk_.1),hk_.2,(Kd.freshB (g:=gb52001) (o:=.cells #[.int .i64 0,.string (⟨#[]⟩:ByteArray),.string (⟨#[]⟩:ByteArray),.int .i64 0,.string (⟨#[]⟩:ByteArray),.slice none 0 0,.slice none 0 0,.int .i64 0] 61 (0,0)) (za1 BK52001.out) k_ hk_.1),(IsS69.fresh za18 k_ hk_.1)⟩)) (keep_size (w:=w) (g:=g) (row:=none) za13));have HO52012:=zk (Kd.R_lower (Kd.R_newM (M:=fun k_=>(w.heap.size≤k_)) (Kd.R_mono (ok':=fun k_=>True) ho1 (fun _ hk_=>trivial)) (keep_size (w:=w) (g:=g) (row:=none) za13) (fun k_ h_=>h_)) (keep_size (w:=w) (g:=g) (row:=none) za13));replace HB:=zk (hb);replace BK52001:=zk (KeepBut.blk hk (g':=gb52001) (o:=.cells #[.int .i64 0,.string (⟨#[]⟩:ByteArray),.string (⟨#[]⟩:ByteArray),.int .i64 0,.string (⟨#[]⟩:ByteArray),.slice none 0 0,.slice none 0 0,.int .i64 0] 61 (0,0)) (za1 BK52001.out) NB52001_0.out (by simp));replace HK:=zk (KeepBut.trans za13 hk (.inl rfl));replace HI0:=zk (hi);(try clear hb);(try clear hb2);(try clear hk);(try clear hi);(try clear ho0);(try clear ho1))|((with_reducible refine gate_dst (N:=3) rfl ?_);refine zE (N:=3) (cs:=#[.int .i64 0,.string (⟨#[]⟩:ByteArray),.string (⟨#[]⟩:ByteArray),.int .i64 0,.string (⟨#[]⟩:ByteArray),.slice none 0 0,.slice none 0 0,.int .i64 0]) (t:=61) ?_;intro gb52016 hg w57 hbox hb;replace HO52009:=zk (Kd.N_below (Kd.N_elderB (za2 HO52009.out) gb52016 (Nat.le_of_eq hg.symm)) hb);replace HO52012:=zk (Kd.R_below (za0 HO52012.out) hb);replace HB:=zk (below_step za40 hb);have BK52016:=zk (hbox);have GW52016:=zk ((by rw [hg];exact (keep_size (w:=w) (g:=g) (row:=none) za13):w.heap.size≤gb52016));have GE52016:=zk ((Nat.le_trans HW0.out (by rw [hg];exact (keep_size (w:=w) (g:=g) (row:=none) za13):w.heap.size≤gb52016):w0.heap.size≤gb52016));have NB52001_52016:=zk ((by rw [hg];exact Nat.ne_of_lt (zl BK52001.out):gb52001 ≠ gb52016));have NB52016_52001:=zk ((by rw [hg];exact Nat.ne_of_gt (zl BK52001.out):gb52016 ≠ gb52001));have NB0_52016:=zk ((by rw [hg];exact Nat.ne_of_lt (IsS69.lt (show IsS69 w0 _ g s0_0 t52014 t52015 from za18)):g ≠ gb52016));have NB52016_0:=zk ((by rw [hg];exact Nat.ne_of_gt (IsS69.lt (show IsS69 w0 _ g s0_0 t52014 t52015 from za18)):gb52016 ≠ g));replace HI0:=zk (IsS69.below za18 hb);replace BK52001:=zk (zb BK52001.out hb);replace HK:=zk (KeepBut.trans za13 (KeepBut.of_below hb g none) (.inl rfl));clear hb hbox hg;have hnb58:=NB52016_52001.out;have hnc58:=NB52001_52016.out;have hnb59:=NB52016_0.out;have hnc59:=NB0_52016.out;obtain ⟨hcz60_0,hcz60_1,hcz60_2,hcz60_3,hcz60_4,hcz60_5,hcz60_6,hcz60_7,hfz60_0,hfz60_1,hfz60_2,hfz60_3,hfz60_4,hfz60_5,hfz60_6,hfz60_7⟩:=blk8 BK52016.out;obtain ⟨Ao61,co61,eo61⟩:=Kd.N_slice HO52009.out;subst eo61;obtain ⟨Ao62,co62,eo62⟩:=Kd.R_slice HO52012.out;subst eo62)|((with_reducible refine gate_callee (f:=42) rfl ?_);refine goesL_ (some 7) rfl rfl Try.func42 (by kernel_rfl) rfl #[.pointer (some ⟨g,0,none⟩),.int .i64 10] rfl za4 ?_;(with_reducible refine (spec_l1Below.calls g s0_0 t52014 t52015 10 t52017 t52018 t52019 w0 _ za14 za25 A3.out).mono ?_);rintro e w63 ⟨rfl,hi,hb,hk⟩;refine ⟨_,rfl,?_⟩;replace BK52001:=zk (KeepBut.blk hk (g':=gb52001) (o:=.cells #[.int .i64 0,.string (⟨#[]⟩:ByteArray),.string (⟨#[]⟩:ByteArray),.int .i64 0,.string (⟨#[]⟩:ByteArray),.slice none 0 0,.slice none 0 0,.int .i64 0] 61 (0,0)) za17 NB52001_0.out (by simp));replace HO52009:=zk (Kd.N_mono (Kd.N_keep (Kd.N_mono (ok:=fun k_=>((((w.heap.size≤k_))∧(some k_ ≠ (.slice Ao62 t52010.length co62:Value).ownBlock∧(k_ ≠ gb52001∧k_ ≠ g)))∧k_ ≠ gb52016)) za65 (fun k_ hk_=>(⟨hk_,hk_.1.2.2.2⟩:_∧k_ ≠ g))) hk (fun _ h=>h.2)) (fun _ h=>h.1));replace HO52012:=zk (Kd.R_mono (Kd.R_keep (IsS69.apart (show IsS69 w0 _ g s0_0 t52014 t52015 from za14) za68 (by decide)) hk (fun _ h=>h.2)) (fun _ h=>h.1));replace HK:=zk (KeepBut.trans za21 hk (.inl rfl));replace HB:=zk (hb);replace BK52016:=zk (KeepBut.blk hk (g':=gb52016) (o:=.cells #[.int .i64 t52002,.string t52003,.string t52004,.int .i64 t52005,.string t52006,.slice Ao61 t52007.length co61,.slice Ao62 t52010.length co62,.int .i64 t52013] 61 (0,0)) (zpu BK52016.out) NB52016_0.out (by simp));replace HI0:=zk (hi);(try clear hb);(try clear hb2);(try clear hk);(try clear hi)))
  replace HO52009:=zk (Kd.N_drew HO52009.out)
  replace HO52012:=zk (Kd.R_drew HO52012.out)
  replace BK52001:=zk (blk_drew BK52001.out)
  replace BK52016:=zk (blk_drew BK52016.out)
  replace HI0:=zk (IsS69.drew HI0.out)
  replace HK:=zk (keep_drew HK.out)
  replace HB:=zk (below_drew1 HB.out)
  refine start_ (n:=9) (S:=fun w'=>w'.cell? ⟨gb52016,0,none⟩=some (.int .i64 t52002)∧w'.cell? ⟨gb52016,1,none⟩=some (.string t52003)∧w'.cell? ⟨gb52016,2,none⟩=some (.string t52004)∧w'.cell? ⟨gb52016,3,none⟩=some (.int .i64 t52005)∧w'.cell? ⟨gb52016,4,none⟩=some (.string t52006)∧w'.cell? ⟨gb52016,5,none⟩=some (.slice Ao61 t52007.length co61)∧w'.cell? ⟨gb52016,6,none⟩=some (.slice Ao62 t52010.length co62)∧w'.cell? ⟨gb52016,7,none⟩=some (.int .i64 t52013)) (ds:=[8]) #[false,false,false,false,false,false,false,false,false] (by kernel_rfl) rfl rfl ⟨(blk_cell BK52016.out 0).trans rfl,(blk_cell BK52016.out 1).trans rfl,(blk_cell BK52016.out 2).trans rfl,(blk_cell BK52016.out 3).trans rfl,(blk_cell BK52016.out 4).trans rfl,(blk_cell BK52016.out 5).trans rfl,(blk_cell BK52016.out 6).trans rfl,(blk_cell BK52016.out 7).trans rfl⟩ (fun hHeld=>?_);refine with_tabW spec_l9Bent.tab10 spec_l9Bent.bits10 (fun HT_ HW_=>?_)
  generalize w63.drew=w64 at HO52009 HO52012 BK52001 BK52016 HI0 HK HB hHeld ⊢
  refine zy 0 (some 26) HT_.out ?_
  refine zy 2 (some 28) HT_.out ?_
  refine ztk 1 (some 27) HT_.out HW_.out hHeld ?_
  refine zon 3 (some 29) HT_.out (fun K hK=>?_)
  refine Kd.R_lit_step (Kd.int .i64) _ 3 ?hg (N:=29) ?hd (xs:=([0,9,10]:List Int)) (inner:=[.int .i64 0,.int .i64 9,.int .i64 10]) (ok:=fun _=>True) (okp:=fun _=>True) ?hr ?hp (fun _ hk=>hk) trivial (Below.refl _ _) (Nat.le_refl _) (by simp) ?_;(case hd=>rfl);(case hg=>rfl);(case hr=>first|(go_simp;done)|(go_simp;rfl));(case hp=>exact (Reps.one (show Kd.M (Kd.int .i64) _ _ _ 0 [.int .i64 0] from rfl) (Reps.one (show Kd.M (Kd.int .i64) _ _ _ 9 [.int .i64 9] from rfl) (Reps.one (show Kd.M (Kd.int .i64) _ _ _ 10 [.int .i64 10] from rfl) (Reps.none _ _)))))
  intro v52033 w65 ho66 hb hg_ hnew_
  clear hg_ hnew_
  (first|rw [← Ny52032.out] at ho66|(simp only [Int.reduceToNat] at ho66;rw [← Ny52032.out] at ho66))
  replace HO52009:=zk (Kd.N_elder' (za2 HO52009.out) (Kd.R_base ho66) hb)
  have HO52034:=zk (Kd.R_lower (Kd.R_new' (Kd.R_newM (M:=fun k_=>(w.heap.size≤k_)) ho66 (keep_size (w:=w) (g:=g) (row:=none) za21) (fun k_ h_=>h_)) (Kd.R_lt (za0 HO52012.out))) (keep_size (w:=w) (g:=g) (row:=none) za21))
  replace BK52001:=zk (zb BK52001.out hb)
  replace BK52016:=zk (zb BK52016.out hb)
  replace HB:=zk (below_step za25 hb)
  replace HO52012:=zk (Kd.R_elder' (za0 HO52012.out) (Kd.R_base ho66) hb)
  replace HI0:=zk (IsS69.below za14 hb)
  replace HK:=zk (KeepBut.trans za21 (KeepBut.of_below hb g none) (.inl rfl))
  clear hb ho66
  obtain ⟨Ao67,co67,eo67⟩:=Kd.R_slice HO52034.out
  (first|subst eo67|(injection eo67 with f1_ f2_ f3_;have f4_:=f1_.symm;have f5_:=f3_.symm;clear f1_ f2_ f3_;subst f4_;subst f5_))
  refine hK.out _ _ ⟨(blk_cell BK52016.out 0).trans rfl,(blk_cell BK52016.out 1).trans rfl,(blk_cell BK52016.out 2).trans rfl,(blk_cell BK52016.out 3).trans rfl,(blk_cell BK52016.out 4).trans rfl,(blk_cell BK52016.out 5).trans rfl,(blk_cell BK52016.out 6).trans rfl,(blk_cell BK52016.out 7).trans rfl⟩ (fun hHeld=>?_)
  clear hK K
  refine zno (some 29) ?_
  refine zon 4 (some 30) HT_.out (fun K hK=>?_)
  refine goes_ Try.func61 (by kernel_rfl) rfl #[.pointer (some ⟨g,0,none⟩),.slice Ao67 y52032.length co67] (by rfl) rfl rfl za4 ?_
  with_reducible refine (spec_l1PickInt.calls g s0_0 t52018 t52019 _ _ y52032 t52035 t52036 t52037 w0 _ za14 za25 ?side3 ?side4 ?side5 A53.out).mono ?_
  (case side3=>repeat (first|exact (Kd.R_reads' HO52034.out).2.2|(with_reducible refine Kd.C_alloc ?_ _)|(with_reducible refine Kd.C_drewN ?_ _)|(with_reducible refine Kd.C_drew ?_)))
  (case side4=>exact (Kd.R_reads' HO52034.out).2.1)
  (case side5=>exact far_slice (IsS69.own_ne HI0.out HO52034.out (by decide)))
  rintro e w68 ⟨rfl,hi,hb,hk⟩
  refine ⟨_,rfl,?_⟩
  replace BK52001:=zk (KeepBut.blk hk (g':=gb52001) (o:=.cells #[.int .i64 0,.string (⟨#[]⟩:ByteArray),.string (⟨#[]⟩:ByteArray),.int .i64 0,.string (⟨#[]⟩:ByteArray),.slice none 0 0,.slice none 0 0,.int .i64 0] 61 (0,0)) (za1 BK52001.out) NB52001_0.out (by simp))
  replace HO52009:=zk (Kd.N_mono (Kd.N_keep (Kd.N_mono (ok:=fun k_=>(((((w.heap.size≤k_))∧(some k_ ≠ (.slice Ao62 t52010.length co62:Value).ownBlock∧(k_ ≠ gb52001∧k_ ≠ g)))∧k_ ≠ gb52016)∧some k_ ≠ (.slice Ao67 y52032.length co67:Value).ownBlock)) (za2 HO52009.out) (fun k_ hk_=>(⟨hk_,hk_.1.1.2.2.2⟩:_∧k_ ≠ g))) hk (fun _ h=>h.2)) (fun _ h=>h.1))
  replace HO52012:=zk (Kd.R_mono (Kd.R_keep (IsS69.apart (show IsS69 w0 _ g s0_0 t52018 t52019 from za14) (za0 HO52012.out) (by decide)) hk (fun _ h=>h.2)) (fun _ h=>h.1))
  replace BK52016:=zk (KeepBut.blk hk (g':=gb52016) (o:=.cells #[.int .i64 t52002,.string t52003,.string t52004,.int .i64 t52005,.string t52006,.slice Ao61 t52007.length co61,.slice Ao62 t52010.length co62,.int .i64 t52013] 61 (0,0)) (za1 BK52016.out) NB52016_0.out (by simp))
  replace HO52034:=zk (Kd.R_mono (Kd.R_keep (IsS69.apart (show IsS69 w0 _ g s0_0 t52018 t52019 from za14) (za0 HO52034.out) (by decide)) hk (fun _ h=>h.2)) (fun _ h=>h.1))
  replace HK:=zk (KeepBut.trans za21 hk (.inl rfl))
  replace HB:=zk (hb)
  replace HI0:=zk (hi)
  (try clear hb)
  (try clear hb2)
  (try clear hk)
  (try clear hi)
  refine hK.out _ _ ⟨(blk_cell BK52016.out 0).trans rfl,(blk_cell BK52016.out 1).trans rfl,(blk_cell BK52016.out 2).trans rfl,(blk_cell BK52016.out 3).trans rfl,(blk_cell BK52016.out 4).trans rfl,(blk_cell BK52016.out 5).trans rfl,(blk_cell BK52016.out 6).trans rfl,(blk_cell BK52016.out 7).trans rfl⟩ (fun hHeld=>?_)
  clear hK K
  refine zno (some 30) ?_
  refine zon 5 (some 31) HT_.out (fun K hK=>?_)
  refine value_ (w1:=?_) (v:=?_) (by rfl) rfl ?_ ?_
  rotate_left 2
  ·go_simp
   constructor
   ·rfl
   ·rfl
  refine hK.out _ _ ⟨(blk_cell (blk_alloc BK52016.out _) 0).trans rfl,(blk_cell (blk_alloc BK52016.out _) 1).trans rfl,(blk_cell (blk_alloc BK52016.out _) 2).trans rfl,(blk_cell (blk_alloc BK52016.out _) 3).trans rfl,(blk_cell (blk_alloc BK52016.out _) 4).trans rfl,(blk_cell (blk_alloc BK52016.out _) 5).trans rfl,(blk_cell (blk_alloc BK52016.out _) 6).trans rfl,(blk_cell (blk_alloc BK52016.out _) 7).trans rfl⟩ (fun hHeld=>?_)
  clear hK K
  refine zno (some 31) ?_
  refine zon 6 (some 32) HT_.out (fun K hK=>?_)
  refine Kd.R_append_step (Kd.int .i64) w.heap.size (by rfl) (.tmp 27) (.tmp 31) 59 3 (.int .i64 0) 8 rfl Try.underlying59 info3 rfl (by decide) (by omega) (.slice Ao62 t52010.length co62) t52010 t52035 [.int .i64 t52035] (fun k_=>(w.heap.size≤k_)∧some k_ ≠ (.slice Ao67 y52032.length co67:Value).ownBlock) (fun _=>False) rfl rfl ?aP (fun _ hk=>hk.elim) ?aF ?aO (Below.refl _ _) ?aS ?aL ?_
  (case aP=>exact rfl)
  (case aF=>exact (fun k_ hk=>⟨(Nat.le_trans (keep_size (w:=w) (g:=g) (row:=none) za21) hk),Kd.fresh' (Kd.R_lt (za0 HO52034.out)) k_ hk⟩))
  (case aO=>exact (by (with_reducible repeat (first|apply Kd.R_alloc|apply Kd.R_drewN|apply Kd.R_drew));exact Kd.R_mono HO52012.out (fun _ hk=>⟨hk.1.1,hk.2⟩)))
  (case aS=>exact (keep_size (w:=w) (g:=g) (row:=none) za21))
  (case aL=>have:=LMc54.out;omega)
  intro v52039 w69 ho hb hg hat
  rw [← Ny52038.out] at ho
  replace BK52001:=zk (blk_grown (g:=gb52001) (o:=.cells #[.int .i64 0,.string (⟨#[]⟩:ByteArray),.string (⟨#[]⟩:ByteArray),.int .i64 0,.string (⟨#[]⟩:ByteArray),.slice none 0 0,.slice none 0 0,.int .i64 0] 61 (0,0)) (za1 BK52001.out) hg (Kd.R_ne HO52012.out BK52001.out (by decide)))
  replace HO52009:=zk (Kd.N_afterv (ok:=(fun k_=>(w.heap.size≤k_)∧some k_ ≠ (.slice Ao67 y52032.length co67:Value).ownBlock∧k_ ≠ gb52001∧k_ ≠ g∧k_ ≠ gb52016)) (by (with_reducible repeat (first|apply Kd.N_alloc|apply Kd.N_drewN|apply Kd.N_drew));exact Kd.N_mono HO52009.out (fun _ hk=>⟨⟨hk.1.1.1,⟨hk.2,⟨hk.1.1.2.2.1,⟨hk.1.1.2.2.2,hk.1.2⟩⟩⟩⟩,hk.1.1.2.1⟩)) hg hat)
  replace BK52016:=zk (blk_grown (g:=gb52016) (o:=.cells #[.int .i64 t52002,.string t52003,.string t52004,.int .i64 t52005,.string t52006,.slice Ao61 t52007.length co61,.slice Ao62 t52010.length co62,.int .i64 t52013] 61 (0,0)) (za1 BK52016.out) hg (Kd.R_ne HO52012.out BK52016.out (by decide)))
  replace HO52034:=zk (Kd.R_after (ok:=(fun k_=>(w.heap.size≤k_))) (by (with_reducible repeat (first|apply Kd.R_alloc|apply Kd.R_drewN|apply Kd.R_drew));exact Kd.R_mono HO52034.out (fun _ hk=>⟨hk.1.1,hk.2⟩)) hg hat)
  replace HB:=zk (below_weaken za25 HL.out hb)
  replace HK:=zk (KeepBut.trans za21 (KeepBut.of_grown hg g) (Kd.R_base2 HO52012.out))
  have HO52040:=zk (ho)
  replace HI0:=zk (IsS69.grown za14 hg (IsS69.own_ne HI0.out HO52012.out (by decide)))
  clear HO52012
  clear ho hb hg hat
  obtain ⟨Ao70,co70,eo70⟩:=Kd.R_slice HO52040.out
  (first|subst eo70|(injection eo70 with f1_ f2_ f3_;have f4_:=f1_.symm;have f5_:=f3_.symm;clear f1_ f2_ f3_;subst f4_;subst f5_))
  refine hK.out _ _ ⟨(blk_cell BK52016.out 0).trans rfl,(blk_cell BK52016.out 1).trans rfl,(blk_cell BK52016.out 2).trans rfl,(blk_cell BK52016.out 3).trans rfl,(blk_cell BK52016.out 4).trans rfl,(blk_cell BK52016.out 5).trans rfl,(blk_cell BK52016.out 6).trans rfl,(blk_cell BK52016.out 7).trans rfl⟩ (fun hHeld=>?_)
  clear hK K
  refine zno (some 32) ?_
  refine zy 7 (some 33) HT_.out ?_
  refine last_ (i:=8) (N:=none) #[true,true,true,true,true,true,true,true,true] rfl rfl (one_of HT_.out (by kernel_rfl)) (by decide) (fun K hK=>?_)
  have hs71:w69.cell? ⟨gb52016,6,none⟩=some (.slice Ao62 t52010.length co62):=(blk_cell BK52016.out 6).trans rfl
  have hfs71:=blk_frozen BK52016.out 6
  have hns71_0:=NB52001_52016.out
  have hms71_0:=NB52016_52001.out
  refine skip_ (w1:=?_) (by rfl) rfl ?_ ?_
  rotate_left
  ·go_simp
   rfl
  refine hK.out _ _ ?_
  clear hK K
  refine done_ (done_of HT_.out (by kernel_rfl)) ?_
  obtain ⟨hcz72_0,hcz72_1,hcz72_2,hcz72_3,hcz72_4,hcz72_5,hcz72_6,hcz72_7,hfz72_0,hfz72_1,hfz72_2,hfz72_3,hfz72_4,hfz72_5,hfz72_6,hfz72_7⟩:=blk8 BK52016.out
  have hnb73:=NB52001_0.out
  have hnc73:=NB0_52001.out
  obtain ⟨hcz74_0,hcz74_1,hcz74_2,hcz74_3,hcz74_4,hcz74_5,hcz74_6,hcz74_7,hfz74_0,hfz74_1,hfz74_2,hfz74_3,hfz74_4,hfz74_5,hfz74_6,hfz74_7⟩:=blk8 BK52001.out
  try go_wp2
  refine bodyPost_ret (results_cell_row rfl _ _ gb52001 61 #[.int .i64 t52002,.string t52003,.string t52004,.int .i64 t52005,.string t52006,.slice Ao61 t52007.length co61,.slice Ao70 y52038.length co70,.int .i64 t52013] (0,0) _ rfl (by (with_reducible repeat (first|refine blk_drewN ?_ _|refine blk_drew ?_|refine blk_alloc ?_ _));refine blk_put (cs:=#[.int .i64 t52002,.string t52003,.string t52004,.int .i64 t52005,.string t52006,.slice Ao61 t52007.length co61,.slice Ao70 y52038.length co70,.int .i64 0]) ?_ 7 _ rfl;(with_reducible repeat (first|refine blk_drewN ?_ _|refine blk_drew ?_|refine blk_alloc ?_ _));refine blk_put (cs:=#[.int .i64 t52002,.string t52003,.string t52004,.int .i64 t52005,.string t52006,.slice Ao61 t52007.length co61,.slice none 0 0,.int .i64 0]) ?_ 6 _ rfl;(with_reducible repeat (first|refine blk_drewN ?_ _|refine blk_drew ?_|refine blk_alloc ?_ _));refine blk_put (cs:=#[.int .i64 t52002,.string t52003,.string t52004,.int .i64 t52005,.string t52006,.slice none 0 0,.slice none 0 0,.int .i64 0]) ?_ 5 _ rfl;(with_reducible repeat (first|refine blk_drewN ?_ _|refine blk_drew ?_|refine blk_alloc ?_ _));refine blk_put (cs:=#[.int .i64 t52002,.string t52003,.string t52004,.int .i64 t52005,.string (⟨#[]⟩:ByteArray),.slice none 0 0,.slice none 0 0,.int .i64 0]) ?_ 4 _ rfl;(with_reducible repeat (first|refine blk_drewN ?_ _|refine blk_drew ?_|refine blk_alloc ?_ _));refine blk_put (cs:=#[.int .i64 t52002,.string t52003,.string t52004,.int .i64 0,.string (⟨#[]⟩:ByteArray),.slice none 0 0,.slice none 0 0,.int .i64 0]) ?_ 3 _ rfl;(with_reducible repeat (first|refine blk_drewN ?_ _|refine blk_drew ?_|refine blk_alloc ?_ _));refine blk_put (cs:=#[.int .i64 t52002,.string t52003,.string (⟨#[]⟩:ByteArray),.int .i64 0,.string (⟨#[]⟩:ByteArray),.slice none 0 0,.slice none 0 0,.int .i64 0]) ?_ 2 _ rfl;(with_reducible repeat (first|refine blk_drewN ?_ _|refine blk_drew ?_|refine blk_alloc ?_ _));refine blk_put (cs:=#[.int .i64 t52002,.string (⟨#[]⟩:ByteArray),.string (⟨#[]⟩:ByteArray),.int .i64 0,.string (⟨#[]⟩:ByteArray),.slice none 0 0,.slice none 0 0,.int .i64 0]) ?_ 1 _ rfl;(with_reducible repeat (first|refine blk_drewN ?_ _|refine blk_drew ?_|refine blk_alloc ?_ _));refine blk_put (cs:=#[.int .i64 0,.string (⟨#[]⟩:ByteArray),.string (⟨#[]⟩:ByteArray),.int .i64 0,.string (⟨#[]⟩:ByteArray),.slice none 0 0,.slice none 0 0,.int .i64 0]) ?_ 0 _ rfl;(with_reducible repeat (first|refine blk_drewN ?_ _|refine blk_drew ?_|refine blk_alloc ?_ _));refine blk_far ?_ NB52001_52016.out _;(with_reducible repeat (first|refine blk_drewN ?_ _|refine blk_drew ?_|refine blk_alloc ?_ _));exact BK52001.out) Try.underlying61 rfl (by kernel_rfl)) rfl ?_
  exact ⟨_,_,za9,by (with_reducible repeat (first|apply Kd.N_alloc|apply Kd.N_drewN|apply Kd.N_drew));exact Kd.N_mono (zfN (zfN (zfN (zfN (zfN (zfN (zfN (zfN (Kd.N_far (p:=⟨gb52016,6,none⟩) (Kd.N_mono (Kd.N_mono HO52009.out (fun k_ hk=>(⟨hk,hk.1.2.2.2.2⟩:_∧k_ ≠ gb52016))) (fun k_ hk=>(⟨hk,hk.1.1.2.2.1⟩:_∧k_ ≠ gb52001))) (fun _ hk=>hk.1.2) (.slice Ao70 y52038.length co70)))))))))) (fun _ hk=>⟨hk.1.1.1.1,hk.1.1.2⟩),by (with_reducible repeat (first|apply Kd.R_alloc|apply Kd.R_drewN|apply Kd.R_drew));exact Kd.R_mono (zfR (zfR (zfR (zfR (zfR (zfR (zfR (zfR (Kd.R_far (p:=⟨gb52016,6,none⟩) (Kd.R_types (Kd.R_types HO52040.out BK52016.out (by decide)) BK52001.out (by decide)) (fun _ hk=>hk.1.2) (.slice Ao70 y52038.length co70)))))))))) (fun _ hk=>hk.1.1.1),za14,za25,za21⟩
 ·rw [if_neg c54] at H
  exact absurd H (by simp)
 ·rw [if_neg c52] at H
  have c52b0:=zbn c52
  have c52b1:=zqt c52
  simp only [Option.some.injEq,Prod.mk.injEq] at H
  obtain ⟨rfl,rfl,rfl,rfl,rfl,rfl,rfl,rfl,rfl,rfl⟩:=H
  go_enter Try.func52,Try.ntmps52
  go_wp2_with (first|((with_reducible refine gate_dst (N:=2) rfl ?_);refine zE (N:=2) (cs:=#[.int .i64 0,.string (⟨#[]⟩:ByteArray),.string (⟨#[]⟩:ByteArray),.int .i64 0,.string (⟨#[]⟩:ByteArray),.slice none 0 0,.slice none 0 0,.int .i64 0]) (t:=61) ?_;intro gb52001 hg w75 hbox hb;replace HB:=zk (below_step za12 hb);have BK52001:=zk (hbox);have GW52001:=zk ((by rw [hg];exact (keep_size (w:=w) (g:=g) (row:=none) za6):w.heap.size≤gb52001));have GE52001:=zk ((Nat.le_trans HW0.out (by rw [hg];exact (keep_size (w:=w) (g:=g) (row:=none) za6):w.heap.size≤gb52001):w0.heap.size≤gb52001));have NB0_52001:=zk ((by rw [hg];exact Nat.ne_of_lt (IsS69.lt (show IsS69 w0 _ g s0_0 s0_1 s0_2 from za5)):g ≠ gb52001));have NB52001_0:=zk ((by rw [hg];exact Nat.ne_of_gt (IsS69.lt (show IsS69 w0 _ g s0_0 s0_1 s0_2 from za5)):gb52001 ≠ g));replace HI0:=zk (IsS69.below za5 hb);replace HK:=zk (KeepBut.trans za6 (KeepBut.of_below hb g none) (.inl rfl));clear hb hbox hg)|((with_reducible refine gate_callee (f:=53) rfl ?_);refine goesL_ (some 5) rfl rfl Try.func53 (by kernel_rfl) rfl #[.pointer (some ⟨g,0,none⟩),.string (⟨#[88,89,90]⟩:ByteArray)] rfl za4 ?_;(with_reducible refine (spec_l9Draw.calls k g s0_0 s0_1 s0_2 (⟨#[88,89,90]⟩:ByteArray) t52002 t52003 t52004 t52005 t52006 t52007 t52010 t52013 t52014 t52015 w0 _ za18 za40 A2.out).mono ?_);rintro e w76 ⟨v52008,v52011,rfl,ho0,ho1,hi,hb,hk⟩;refine ⟨_,rfl,?_⟩;have HO52009:=zk (Kd.N_lower (Kd.N_mono (ok':=fun k_=>(w.heap.size≤k_)∧some k_ ≠ (v52011:Value).ownBlock∧k_ ≠ gb52001∧k_ ≠ g) ho0 (fun k_ hk_=>⟨(Nat.le_trans (keep_size (w:=w) (g:=g) (row:=none) za13) hk_.1),hk_.2,(Kd.freshB (g:=gb52001) (o:=.cells #[.int .i64 0,.string (⟨#[]⟩:ByteArray),.string (⟨#[]⟩:ByteArray),.int .i64 0,.string (⟨#[]⟩:ByteArray),.slice none 0 0,.slice none 0 0,.int .i64 0] 61 (0,0)) (za1 BK52001.out) k_ hk_.1),(IsS69.fresh za18 k_ hk_.1)⟩)) (keep_size (w:=w) (g:=g) (row:=none) za13));have HO52012:=zk (Kd.R_lower (Kd.R_newM (M:=fun k_=>(w.heap.size≤k_)) (Kd.R_mono (ok':=fun k_=>True) ho1 (fun _ hk_=>trivial)) (keep_size (w:=w) (g:=g) (row:=none) za13) (fun k_ h_=>h_)) (keep_size (w:=w) (g:=g) (row:=none) za13));replace HB:=zk (hb);replace BK52001:=zk (KeepBut.blk hk (g':=gb52001) (o:=.cells #[.int .i64 0,.string (⟨#[]⟩:ByteArray),.string (⟨#[]⟩:ByteArray),.int .i64 0,.string (⟨#[]⟩:ByteArray),.slice none 0 0,.slice none 0 0,.int .i64 0] 61 (0,0)) (za1 BK52001.out) NB52001_0.out (by simp));replace HK:=zk (KeepBut.trans za13 hk (.inl rfl));replace HI0:=zk (hi);(try clear hb);(try clear hb2);(try clear hk);(try clear hi);(try clear ho0);(try clear ho1))|((with_reducible refine gate_dst (N:=3) rfl ?_);refine zE (N:=3) (cs:=#[.int .i64 0,.string (⟨#[]⟩:ByteArray),.string (⟨#[]⟩:ByteArray),.int .i64 0,.string (⟨#[]⟩:ByteArray),.slice none 0 0,.slice none 0 0,.int .i64 0]) (t:=61) ?_;intro gb52016 hg w77 hbox hb;replace HO52009:=zk (Kd.N_below (Kd.N_elderB (za2 HO52009.out) gb52016 (Nat.le_of_eq hg.symm)) hb);replace HO52012:=zk (Kd.R_below (za0 HO52012.out) hb);replace HB:=zk (below_step za40 hb);have BK52016:=zk (hbox);have GW52016:=zk ((by rw [hg];exact (keep_size (w:=w) (g:=g) (row:=none) za13):w.heap.size≤gb52016));have GE52016:=zk ((Nat.le_trans HW0.out (by rw [hg];exact (keep_size (w:=w) (g:=g) (row:=none) za13):w.heap.size≤gb52016):w0.heap.size≤gb52016));have NB52001_52016:=zk ((by rw [hg];exact Nat.ne_of_lt (zl BK52001.out):gb52001 ≠ gb52016));have NB52016_52001:=zk ((by rw [hg];exact Nat.ne_of_gt (zl BK52001.out):gb52016 ≠ gb52001));have NB0_52016:=zk ((by rw [hg];exact Nat.ne_of_lt (IsS69.lt (show IsS69 w0 _ g s0_0 t52014 t52015 from za18)):g ≠ gb52016));have NB52016_0:=zk ((by rw [hg];exact Nat.ne_of_gt (IsS69.lt (show IsS69 w0 _ g s0_0 t52014 t52015 from za18)):gb52016 ≠ g));replace HI0:=zk (IsS69.below za18 hb);replace BK52001:=zk (zb BK52001.out hb);replace HK:=zk (KeepBut.trans za13 (KeepBut.of_below hb g none) (.inl rfl));clear hb hbox hg;have hnb78:=NB52016_52001.out;have hnc78:=NB52001_52016.out;have hnb79:=NB52016_0.out;have hnc79:=NB0_52016.out;obtain ⟨hcz80_0,hcz80_1,hcz80_2,hcz80_3,hcz80_4,hcz80_5,hcz80_6,hcz80_7,hfz80_0,hfz80_1,hfz80_2,hfz80_3,hfz80_4,hfz80_5,hfz80_6,hfz80_7⟩:=blk8 BK52016.out;obtain ⟨Ao81,co81,eo81⟩:=Kd.N_slice HO52009.out;subst eo81;obtain ⟨Ao82,co82,eo82⟩:=Kd.R_slice HO52012.out;subst eo82)|((with_reducible refine gate_callee (f:=42) rfl ?_);refine goesL_ (some 7) rfl rfl Try.func42 (by kernel_rfl) rfl #[.pointer (some ⟨g,0,none⟩),.int .i64 10] rfl za4 ?_;(with_reducible refine (spec_l1Below.calls g s0_0 t52014 t52015 10 t52017 t52018 t52019 w0 _ za14 za25 A3.out).mono ?_);rintro e w83 ⟨rfl,hi,hb,hk⟩;refine ⟨_,rfl,?_⟩;replace BK52001:=zk (KeepBut.blk hk (g':=gb52001) (o:=.cells #[.int .i64 0,.string (⟨#[]⟩:ByteArray),.string (⟨#[]⟩:ByteArray),.int .i64 0,.string (⟨#[]⟩:ByteArray),.slice none 0 0,.slice none 0 0,.int .i64 0] 61 (0,0)) za17 NB52001_0.out (by simp));replace HO52009:=zk (Kd.N_mono (Kd.N_keep (Kd.N_mono (ok:=fun k_=>((((w.heap.size≤k_))∧(some k_ ≠ (.slice Ao82 t52010.length co82:Value).ownBlock∧(k_ ≠ gb52001∧k_ ≠ g)))∧k_ ≠ gb52016)) za65 (fun k_ hk_=>(⟨hk_,hk_.1.2.2.2⟩:_∧k_ ≠ g))) hk (fun _ h=>h.2)) (fun _ h=>h.1));replace HO52012:=zk (Kd.R_mono (Kd.R_keep (IsS69.apart (show IsS69 w0 _ g s0_0 t52014 t52015 from za14) za68 (by decide)) hk (fun _ h=>h.2)) (fun _ h=>h.1));replace HK:=zk (KeepBut.trans za21 hk (.inl rfl));replace HB:=zk (hb);replace BK52016:=zk (KeepBut.blk hk (g':=gb52016) (o:=.cells #[.int .i64 t52002,.string t52003,.string t52004,.int .i64 t52005,.string t52006,.slice Ao81 t52007.length co81,.slice Ao82 t52010.length co82,.int .i64 t52013] 61 (0,0)) (zpu BK52016.out) NB52016_0.out (by simp));replace HI0:=zk (hi);(try clear hb);(try clear hb2);(try clear hk);(try clear hi);obtain ⟨hcz84_0,hcz84_1,hcz84_2,hcz84_3,hcz84_4,hcz84_5,hcz84_6,hcz84_7,hfz84_0,hfz84_1,hfz84_2,hfz84_3,hfz84_4,hfz84_5,hfz84_6,hfz84_7⟩:=blk8 BK52016.out;have hnb85:=NB52001_0.out;have hnc85:=NB0_52001.out;obtain ⟨hcz86_0,hcz86_1,hcz86_2,hcz86_3,hcz86_4,hcz86_5,hcz86_6,hcz86_7,hfz86_0,hfz86_1,hfz86_2,hfz86_3,hfz86_4,hfz86_5,hfz86_6,hfz86_7⟩:=blk8 BK52001.out))
  refine bodyPost_ret (results_cell_row rfl _ _ gb52001 61 #[.int .i64 t52002,.string t52003,.string t52004,.int .i64 t52005,.string t52006,.slice Ao81 t52007.length co81,.slice Ao82 t52010.length co82,.int .i64 t52013] (0,0) _ rfl (zpu BK52001.out) Try.underlying61 rfl (by kernel_rfl)) rfl ?_
  exact ⟨_,_,za9,by (with_reducible repeat (first|apply Kd.N_alloc|apply Kd.N_drewN|apply Kd.N_drew));exact Kd.N_mono (zfN (zfN (zfN (zfN (zfN (zfN (zfN (zfN (Kd.N_mono HO52009.out (fun k_ hk=>(⟨hk,hk.1.2.2.1⟩:_∧k_ ≠ gb52001))))))))))) (fun _ hk=>⟨hk.1.1.1,hk.1.1.2.1⟩),by (with_reducible repeat (first|apply Kd.R_alloc|apply Kd.R_drewN|apply Kd.R_drew));exact Kd.R_mono (zfR (zfR (zfR (zfR (zfR (zfR (zfR (zfR (Kd.R_types HO52012.out BK52001.out (by decide)))))))))) (fun _ hk=>hk.1.1),za14,za25,za21⟩
def spec_l10Draw.l0:Nat→ByteArray→Int→Int→List Int→Int→Int→List (S61)→Option ((List (S61)) × Int × Int)
 | 0,_,_,_,_,_,_,_=>none
 | k+1,x6,x7,x8,x1000,x1001,x1002,x51003000=>if x8 < x7 then ((spec_l9Draw.f k x1000 x1001 x1002 x6).bind fun bt51012=>(if x51003000.length < 1172812402961 then (spec_l10Draw.l0 k x6 x7 (wrap64 (x8+1)) x1000 bt51012.2.2.2.2.2.2.2.2.1 bt51012.2.2.2.2.2.2.2.2.2 (x51003000 ++ [(⟨bt51012.1,bt51012.2.1,bt51012.2.2.1,(⟨bt51012.2.2.2.1,bt51012.2.2.2.2.1,bt51012.2.2.2.2.2.1⟩:S58),bt51012.2.2.2.2.2.2.1,bt51012.2.2.2.2.2.2.2.1⟩:S61)])) else (none))) else (some (x51003000,x1001,x1002))
def spec_l10Draw.f (k:Nat) (s0_0:List Int) (s0_1:Int) (s0_2:Int) (a1:Int):Option ((List (S61)) × Int × Int):=(spec_l1Pick.f s0_0 s0_1 s0_2 (([(⟨#[88]⟩:ByteArray),(⟨#[88,89]⟩:ByteArray),(⟨#[88,89]⟩:ByteArray),(⟨#[88,89,90]⟩:ByteArray)]:List ByteArray))).bind fun bt51006=>((spec_l1Below.f s0_0 bt51006.2.1 bt51006.2.2 a1).bind fun bt51009=>(spec_l10Draw.l0 k bt51006.1 (wrap64 (1+bt51009.1)) 0 s0_0 bt51009.2.1 bt51009.2.2 ([]:List (S61))))
def spec_l10Draw.T7:Bool × List (List Nat × List Nat):=(true,[([],[]),([0],[0]),([],[]),([],[]),([2,3],[2,3]),([4],[4]),([1,5,4],[1,5]),([0,1,2,3,4,5,6],[]),([7,6,6,0,1,2,3,4,5,6],[6,7])])
def spec_l10Draw.B7:List Nat:=[0,1,0,0,12,28,63,127,255]
theorem spec_l10Draw.tab7:rtab .any (opsOf Try.f51 7)=spec_l10Draw.T7:=by kernel_rfl
theorem spec_l10Draw.bits7:waitsOk spec_l10Draw.T7.2 spec_l10Draw.B7=true:=by kernel_rfl
theorem spec_l10Draw.calls (k:Nat) (g:Nat) (s0_0:List Int) (s0_1:Int) (s0_2:Int) (a1:Int) (r1:List (S61)) (r2:Int) (r3:Int) (w0 w:World) (hI:IsS69 w0 w g s0_0 s0_1 s0_2) (hB:Below w0.heap.size w0 w) (h:spec_l10Draw.f k s0_0 s0_1 s0_2 a1=some (r1,r2,r3)) :
   Calls Try.prog 51 #[.pointer (some ⟨g,0,none⟩),.int .i64 a1] w fun e w'=>∃ v0_:Value,e = .returned (.agg #[v0_])∧Kd.N k61 61 w' w.heap.size (fun k_=>(w.heap.size≤k_)) v0_ r1∧IsS69 w0 w' g s0_0 r2 r3∧Below w0.heap.size w0 w'∧KeepBut w w' g none:=by
 have hu37:=Try.underlying37
 have HI0:=zk hI
 have HK:=zk (KeepBut.refl w g none)
 have HL:=zk hB.size
 clear hI
 have HW0:=zk hB.size
 have HB:=zk hB
 clear hB
 have H:=h
 unfold spec_l10Draw.f at H
 clear h
 obtain ⟨y51003,hy51003⟩:∃ y_:List ByteArray,y_=(([(⟨#[88]⟩:ByteArray),(⟨#[88,89]⟩:ByteArray),(⟨#[88,89]⟩:ByteArray),(⟨#[88,89,90]⟩:ByteArray)]:List ByteArray)):=⟨_,rfl⟩
 replace H:((spec_l1Pick.f s0_0 s0_1 s0_2 y51003).bind fun bt51006=>((spec_l1Below.f s0_0 bt51006.2.1 bt51006.2.2 a1).bind fun bt51009=>(spec_l10Draw.l0 k bt51006.1 (wrap64 (1+bt51009.1)) 0 s0_0 bt51009.2.1 bt51009.2.2 ([]:List (S61)))))=some (r1,r2,r3):=by first|(rw [hy51003];with_reducible exact H)|(have H2_:=(Option.bind_some _ _).symm.trans H;rw [hy51003];with_reducible exact H2_)|(have H2_:=(Option.bind_some _ _).symm.trans H;with_reducible exact H2_)|with_reducible exact H|(rw [hy51003];exact H)|exact H
 have Ny51003:=zk hy51003
 clear hy51003
 replace H:=zo H
 obtain ⟨⟨t51006,t51007,t51008⟩,A30,H⟩:=H
 try dsimp only at H
 have A3:=zk A30
 clear A30
 replace H:=zo H
 obtain ⟨⟨t51009,t51010,t51011⟩,A40,H⟩:=H
 try dsimp only at H
 have A4:=zk A40
 clear A40
 have H':=zk H
 clear H
 go_enter Try.func51,Try.ntmps51
 go_wp2_with (first|((with_reducible refine gate_dst (N:=4) rfl ?_);refine zE (N:=4) (cs:=#[.slice none 0 0]) (t:=37) ?_;intro gb51001 hg w5 hbox hb;replace HB:=zk (below_step za12 hb);have BK51001:=zk (hbox);have GW51001:=zk ((by rw [hg];exact (keep_size (w:=w) (g:=g) (row:=none) za6):w.heap.size≤gb51001));have GE51001:=zk ((Nat.le_trans HW0.out (by rw [hg];exact (keep_size (w:=w) (g:=g) (row:=none) za6):w.heap.size≤gb51001):w0.heap.size≤gb51001));have NB0_51001:=zk ((by rw [hg];exact Nat.ne_of_lt (IsS69.lt (show IsS69 w0 _ g s0_0 s0_1 s0_2 from za5)):g ≠ gb51001));have NB51001_0:=zk ((by rw [hg];exact Nat.ne_of_gt (IsS69.lt (show IsS69 w0 _ g s0_0 s0_1 s0_2 from za5)):gb51001 ≠ g));replace HI0:=zk (IsS69.below za5 hb);replace HK:=zk (KeepBut.trans za6 (KeepBut.of_below hb g none) (.inl rfl));clear hb hbox hg)|((with_reducible refine gate_dst (N:=5) rfl ?_);refine zE (N:=5) (cs:=#[.slice none 0 0]) (t:=37) ?_;intro gb51002 hg w6 hbox hb;replace HB:=zk (below_step (by repeat (first|(with_reducible first|exact HB.out|apply below_alloc|apply pw_below_drewN|apply below_drew1|refine below_set ?_ (IsS69.ge HI0.out)|refine below_set ?_ GE51001.out)|exact HB.out)) hb);have BK51002:=zk (hbox);have GW51002:=zk ((by rw [hg];exact (keep_size (w:=w) (g:=g) (row:=none) za91):w.heap.size≤gb51002));have GE51002:=zk ((Nat.le_trans HW0.out (by rw [hg];exact (keep_size (w:=w) (g:=g) (row:=none) za91):w.heap.size≤gb51002):w0.heap.size≤gb51002));have NB51001_51002:=zk ((by rw [hg];exact Nat.ne_of_lt (zl BK51001.out):gb51001 ≠ gb51002));have NB51002_51001:=zk ((by rw [hg];exact Nat.ne_of_gt (zl BK51001.out):gb51002 ≠ gb51001));have NB0_51002:=zk ((by rw [hg];exact Nat.ne_of_lt (IsS69.lt (show IsS69 w0 _ g s0_0 s0_1 s0_2 from za83)):g ≠ gb51002));have NB51002_0:=zk ((by rw [hg];exact Nat.ne_of_gt (IsS69.lt (show IsS69 w0 _ g s0_0 s0_1 s0_2 from za83)):gb51002 ≠ g));replace HI0:=zk (IsS69.below za83 hb);replace BK51001:=zk (zb BK51001.out hb);replace HK:=zk (KeepBut.trans za91 (KeepBut.of_below hb g none) (.inl rfl));clear hb hbox hg;have hnb7:=NB51002_51001.out;have hnc7:=NB51001_51002.out;have hnb8:=NB51002_0.out;have hnc8:=NB0_51002.out;obtain ⟨hcz9_0,hfz9_0⟩:=blk1 BK51002.out)|((with_reducible refine gate_dst (N:=11) rfl ?_);refine Kd.R_lit Kd.string _ 9 ?hg (N:=11) ?hd (xs:=([(⟨#[88]⟩:ByteArray),(⟨#[88,89]⟩:ByteArray),(⟨#[88,89]⟩:ByteArray),(⟨#[88,89,90]⟩:ByteArray)]:List ByteArray)) (inner:=[.string (⟨#[88]⟩:ByteArray),.string (⟨#[88,89]⟩:ByteArray),.string (⟨#[88,89]⟩:ByteArray),.string (⟨#[88,89,90]⟩:ByteArray)]) (ok:=fun _=>True) (okp:=fun _=>True) ?hr ?hp (fun _ hk=>hk) trivial (Below.refl _ _) (Nat.le_refl _) (by simp) ?_;(case hd=>rfl);(case hg=>rfl);(case hr=>first|(go_simp;done)|(go_simp;rfl));(case hp=>exact (Reps.one (show Kd.M Kd.string _ _ _ (⟨#[88]⟩:ByteArray) [.string (⟨#[88]⟩:ByteArray)] from rfl) (Reps.one (show Kd.M Kd.string _ _ _ (⟨#[88,89]⟩:ByteArray) [.string (⟨#[88,89]⟩:ByteArray)] from rfl) (Reps.one (show Kd.M Kd.string _ _ _ (⟨#[88,89]⟩:ByteArray) [.string (⟨#[88,89]⟩:ByteArray)] from rfl) (Reps.one (show Kd.M Kd.string _ _ _ (⟨#[88,89,90]⟩:ByteArray) [.string (⟨#[88,89,90]⟩:ByteArray)] from rfl) (Reps.none _ _))))));intro v51004 w10 ho11 hb hg_ hnew_;clear hg_ hnew_;(first|rw [← Ny51003.out] at ho11|(simp only [Int.reduceToNat] at ho11;rw [← Ny51003.out] at ho11));have HO51005:=zk (Kd.R_lower (Kd.R_newM (M:=fun k_=>(w.heap.size≤k_)) ho11 (keep_size (w:=w) (g:=g) (row:=none) za30) (fun k_ h_=>h_)) (keep_size (w:=w) (g:=g) (row:=none) za30));replace BK51001:=zk (blk_below (g:=gb51001) (o:=.cells #[.slice none 0 0] 37 (0,0)) za98 hb);replace BK51002:=zk (blk_below (g:=gb51002) (o:=.cells #[.slice none 0 0] 37 (0,0)) (zpu BK51002.out) hb);replace HB:=zk (below_step za44 hb);replace HI0:=zk (IsS69.below (show IsS69 w0 (w6.setCell ⟨gb51002,0,none⟩ (.slice none 0 0)) g s0_0 s0_1 s0_2 from za35) hb);replace HK:=zk (KeepBut.trans za30 (KeepBut.of_below hb g none) (.inl rfl));clear hb ho11;obtain ⟨Ao12,co12,eo12⟩:=Kd.R_slice HO51005.out;subst eo12)|((with_reducible refine gate_callee (f:=43) rfl ?_);refine goesL_ (some 12) rfl rfl Try.func43 (by kernel_rfl) rfl #[.pointer (some ⟨g,0,none⟩),.slice Ao12 y51003.length co12] rfl za4 ?_;(with_reducible refine (spec_l1Pick.calls g s0_0 s0_1 s0_2 _ _ y51003 t51006 t51007 t51008 w0 _ za35 za44 ?side3 ?side4 ?side5 A3.out).mono ?_);(case side3=>repeat (first|exact (Kd.R_reads' HO51005.out).2.2|(with_reducible refine Kd.C_alloc ?_ _)|(with_reducible refine Kd.C_drewN ?_ _)|(with_reducible refine Kd.C_drew ?_)));(case side4=>exact (Kd.R_reads' HO51005.out).2.1);(case side5=>exact far_slice (IsS69.own_ne HI0.out HO51005.out (by decide)));rintro e w13 ⟨rfl,hi,hb,hk⟩;refine ⟨_,rfl,?_⟩;replace BK51001:=zk (KeepBut.blk hk (g':=gb51001) (o:=.cells #[.slice none 0 0] 37 (0,0)) (za1 BK51001.out) NB51001_0.out (by simp));replace BK51002:=zk (KeepBut.blk hk (g':=gb51002) (o:=.cells #[.slice none 0 0] 37 (0,0)) (za1 BK51002.out) NB51002_0.out (by simp));replace HO51005:=zk (Kd.R_mono (Kd.R_keep (IsS69.apart (show IsS69 w0 _ g s0_0 s0_1 s0_2 from za35) (za0 HO51005.out) (by decide)) hk (fun _ h=>h.2)) (fun _ h=>h.1));replace HK:=zk (KeepBut.trans za30 hk (.inl rfl));replace HB:=zk (hb);replace HI0:=zk (hi);(try clear hb);(try clear hb2);(try clear hk);(try clear hi))|((with_reducible refine gate_callee (f:=42) rfl ?_);refine goesL_ (some 15) rfl rfl Try.func42 (by kernel_rfl) rfl #[.pointer (some ⟨g,0,none⟩),.int .i64 a1] rfl za4 ?_;(with_reducible refine (spec_l1Below.calls g s0_0 t51007 t51008 a1 t51009 t51010 t51011 w0 _ za35 za44 A4.out).mono ?_);rintro e w14 ⟨rfl,hi,hb,hk⟩;refine ⟨_,rfl,?_⟩;replace BK51001:=zk (KeepBut.blk hk (g':=gb51001) (o:=.cells #[.slice none 0 0] 37 (0,0)) (za1 BK51001.out) NB51001_0.out (by simp));replace BK51002:=zk (KeepBut.blk hk (g':=gb51002) (o:=.cells #[.slice none 0 0] 37 (0,0)) (za1 BK51002.out) NB51002_0.out (by simp));replace HO51005:=zk (Kd.R_mono (Kd.R_keep (IsS69.apart (show IsS69 w0 _ g s0_0 t51007 t51008 from za35) (za0 HO51005.out) (by decide)) hk (fun _ h=>h.2)) (fun _ h=>h.1));replace HK:=zk (KeepBut.trans za30 hk (.inl rfl));replace HB:=zk (hb);replace HI0:=zk (hi);(try clear hb);(try clear hb2);(try clear hk);(try clear hi)))
 try simp only [Act.put,zt,zv,zu]
 go_loopg [8] k (fun kq v8 w'=>∃ (x8_1:Int) (x1001_1:Int) (x1002_1:Int) (x51003000_1:List (S61)) (u51003000:Value),v8 = .int .i64 x8_1∧Aside0 (spec_l10Draw.l0 kq t51006 (wrap64 (1+t51009)) x8_1 s0_0 x1001_1 x1002_1 x51003000_1=some (r1,r2,r3))∧Aside0 (kq≤k)∧Aside0 (Kd.N k61 61 w' w.heap.size (fun k_=>(w.heap.size≤k_)∧k_ ≠ gb51001∧k_ ≠ gb51002∧k_ ≠ g) u51003000 x51003000_1)∧Aside0 (w'.heap[gb51001]? = some (.cells #[(.slice none 0 0)] 37 (0,0)))∧Aside0 (w'.heap[gb51002]? = some (.cells #[u51003000] 37 (0,0)))∧Aside0 (IsS69 w0 w' g s0_0 x1001_1 x1002_1)∧Aside0 (KeepBut w w' g none)∧Aside0 (Below w0.heap.size w0 w'))
 case atStart=>exact ⟨(0),(t51010),(t51011),(([]:List (S61))),(.slice none 0 0),za8,H',⟨Nat.le_refl _⟩,⟨za41⟩,⟨za1 BK51001.out⟩,⟨za1 BK51002.out⟩,⟨za35⟩,⟨za30⟩,⟨za44⟩⟩
 case round =>
  clear H'
  try clear hcz9_0
  try clear hfz9_0
  obtain ⟨x8_1,x1001_1,x1002_1,x51003000_1,u51003000,rfl,HA,HK1,HO_51003000,BK51001,BK51002,HI0,HK,HB⟩:=hrel
  cases gk with
  | zero=>exact absurd HA.out (by simp [spec_l10Draw.l0])
  | succ k1 =>
   have H:=HA.out
   clear HA
   simp only [spec_l10Draw.l0] at H
   by_cases c15:x8_1 < (wrap64 (1+t51009))
   rw [if_pos c15] at H
   have c15b0:=zdl c15
   have c15w:decide (x8_1 < (IntKind.i64.wrap (1+t51009)))=true:=by simp only [i64_w];exact c15b0
   clear c15
   replace H:=zo H
   obtain ⟨⟨t51012,t51013,t51014,t51015,t51016,t51017,t51020,t51023,t51024,t51025⟩,A160,H⟩:=H
   try dsimp only at H
   have A16:=zk A160
   clear A160
   by_cases c17:x51003000_1.length < 1172812402961
   ·rw [if_pos c17] at H
    have LMc17:=zk c17
    clear c17
    obtain ⟨y51026,hy51026⟩:∃ y_:List (S61),y_=(x51003000_1 ++ [(⟨t51012,t51013,t51014,(⟨t51015,t51016,t51017⟩:S58),t51020,t51023⟩:S61)]):=⟨_,rfl⟩
    replace H:(spec_l10Draw.l0 k1 t51006 (wrap64 (1+t51009)) (wrap64 (x8_1+1)) s0_0 t51024 t51025 y51026)=some (r1,r2,r3):=by first|(rw [hy51026];with_reducible exact H)|(have H2_:=(Option.bind_some _ _).symm.trans H;rw [hy51026];with_reducible exact H2_)|(have H2_:=(Option.bind_some _ _).symm.trans H;with_reducible exact H2_)|with_reducible exact H|(rw [hy51026];exact H)|exact H
    have Ny51026:=zk hy51026
    clear hy51026
    have H':=zk H
    clear H
    try go_wp2
    replace HO_51003000:=zk (Kd.N_drew HO_51003000.out)
    replace BK51001:=zk (blk_drew BK51001.out)
    replace BK51002:=zk (blk_drew BK51002.out)
    replace HI0:=zk (IsS69.drew HI0.out)
    replace HK:=zk (keep_drew HK.out)
    replace HB:=zk (below_drew1 HB.out)
    refine start_ (n:=9) (S:=fun w'=>w'.cell? ⟨gb51002,0,none⟩=some (u51003000)) (ds:=[8]) #[false,false,false,false,false,false,false,false,false] (by kernel_rfl) rfl rfl ((blk_cell BK51002.out 0).trans rfl) (fun hHeld=>?_);refine with_tabW spec_l10Draw.tab7 spec_l10Draw.bits7 (fun HT_ HW_=>?_)
    generalize wr.drew=w18 at HO_51003000 BK51001 BK51002 HI0 HK HB hHeld ⊢
    refine zy 0 (some 22) HT_.out ?_
    refine zy 2 (some 24) HT_.out ?_
    refine zy 3 (some 25) HT_.out ?_
    refine ztk 1 (some 23) HT_.out HW_.out hHeld ?_
    refine zon 4 (some 26) HT_.out (fun K hK=>?_)
    refine goes_ Try.func53 (by kernel_rfl) rfl #[.pointer (some ⟨g,0,none⟩),.string t51006] (by rfl) rfl rfl za4 ?_
    with_reducible refine (spec_l9Draw.calls k1 g s0_0 x1001_1 x1002_1 t51006 t51012 t51013 t51014 t51015 t51016 t51017 t51020 t51023 t51024 t51025 w0 _ za35 za44 A16.out).mono ?_
    rintro e w19 ⟨v51018,v51021,rfl,ho0,ho1,hi,hb,hk⟩
    refine ⟨_,rfl,?_⟩
    have HO51019:=zk (Kd.N_lower (Kd.N_mono (ok':=fun k_=>(w.heap.size≤k_)∧some k_ ≠ (v51021:Value).ownBlock∧some k_ ≠ (u51003000:Value).ownBlock∧k_ ≠ gb51001∧k_ ≠ gb51002∧k_ ≠ g) ho0 (fun k_ hk_=>⟨(Nat.le_trans (keep_size (w:=w) (g:=g) (row:=none) za30) hk_.1),hk_.2,(Kd.fresh' (Kd.N_lt (za2 HO_51003000.out)) k_ hk_.1),(Kd.freshB (g:=gb51001) (o:=.cells #[.slice none 0 0] 37 (0,0)) (za1 BK51001.out) k_ hk_.1),(Kd.freshB (g:=gb51002) (o:=.cells #[u51003000] 37 (0,0)) (za1 BK51002.out) k_ hk_.1),(IsS69.fresh za35 k_ hk_.1)⟩)) (keep_size (w:=w) (g:=g) (row:=none) za30))
    have HO51022:=zk (Kd.R_lower (Kd.R_newM (M:=fun k_=>(w.heap.size≤k_)) (Kd.R_mono (ok':=fun k_=>True) ho1 (fun _ hk_=>trivial)) (keep_size (w:=w) (g:=g) (row:=none) za30) (fun k_ h_=>h_)) (keep_size (w:=w) (g:=g) (row:=none) za30))
    replace HB:=zk (hb)
    replace HO_51003000:=zk (Kd.N_mono (Kd.N_told (Kd.N_told (Kd.N_oldK (Kd.N_mono (ok:=fun k_=>(((w.heap.size≤k_))∧(k_ ≠ gb51001∧(k_ ≠ gb51002∧k_ ≠ g)))) (za2 HO_51003000.out) (fun k_ hk_=>(⟨hk_,hk_.2.2.2⟩:_∧k_ ≠ g))) hk) (Kd.N_base ho0)) (Kd.R_base ho1)) (fun _ h_=>h_.1))
    replace BK51001:=zk (KeepBut.blk hk (g':=gb51001) (o:=.cells #[.slice none 0 0] 37 (0,0)) (za1 BK51001.out) NB51001_0.out (by simp))
    replace BK51002:=zk (KeepBut.blk hk (g':=gb51002) (o:=.cells #[u51003000] 37 (0,0)) (za1 BK51002.out) NB51002_0.out (by simp))
    replace HK:=zk (KeepBut.trans za30 hk (.inl rfl))
    replace HI0:=zk (hi)
    (try clear hb)
    (try clear hb2)
    (try clear hk)
    (try clear hi)
    (try clear ho0)
    (try clear ho1)
    obtain ⟨Ao21,co21,eo21⟩:=Kd.N_slice HO51019.out
    (first|subst eo21|(injection eo21 with f1_ f2_ f3_;have f4_:=f1_.symm;have f5_:=f3_.symm;clear f1_ f2_ f3_;subst f4_;subst f5_))
    obtain ⟨Ao22,co22,eo22⟩:=Kd.R_slice HO51022.out
    (first|subst eo22|(injection eo22 with f1_ f2_ f3_;have f4_:=f1_.symm;have f5_:=f3_.symm;clear f1_ f2_ f3_;subst f4_;subst f5_))
    refine hK.out _ _ ((blk_cell BK51002.out 0).trans rfl) (fun hHeld=>?_)
    clear hK K
    refine zno (some 26) ?_
    refine zon 5 (some 27) HT_.out (fun K hK=>?_)
    refine value_ (w1:=?_) (v:=?_) (by rfl) rfl ?_ ?_
    rotate_left 2
    ·go_simp
     constructor
     ·rfl
     ·rfl
    refine hK.out _ _ ((blk_cell (blk_alloc BK51002.out _) 0).trans rfl) (fun hHeld=>?_)
    clear hK K
    refine zno (some 27) ?_
    refine zon 6 (some 28) HT_.out (fun K hK=>?_)
    refine Kd.N_append_step k61 w.heap.size (by rfl) (.tmp 23) (.tmp 27) 35 61 (.agg #[(.int .i64 0),(.string ⟨#[]⟩),(.string ⟨#[]⟩),(.int .i64 0),(.string ⟨#[]⟩),(.slice none 0 0),(.slice none 0 0),(.int .i64 0)]) 120 rfl Try.underlying35 info61 rfl (by decide) (by omega) u51003000 x51003000_1 (⟨t51012,t51013,t51014,(⟨t51015,t51016,t51017⟩:S58),t51020,t51023⟩:S61) [.int .i64 t51012,.string t51013,.string t51014,.int .i64 t51015,.string t51016,.slice Ao21 t51017.length co21,.slice Ao22 t51020.length co22,.int .i64 t51023] (fun k_=>(w.heap.size≤k_)∧k_ ≠ gb51001∧k_ ≠ gb51002∧k_ ≠ g) (fun k_=>((fun k_=>(w.heap.size≤k_)∧k_ ≠ gb51001∧k_ ≠ gb51002∧k_ ≠ g)) k_∧some k_ ≠ (u51003000:Value).ownBlock) rfl rfl ?aP (fun _ hk=>hk) ?aF ?aO (Below.refl _ _) ?aS ?aL ?_
    (case aP=>exact (k61_mkF _ _ (⟨t51012,t51013,t51014,(⟨t51015,t51016,t51017⟩:S58),t51020,t51023⟩:S61) (Kd.N_reads' (Kd.N_mono (ok':=(fun k_=>((fun k_=>(w.heap.size≤k_)∧k_ ≠ gb51001∧k_ ≠ gb51002∧k_ ≠ g)) k_∧some k_ ≠ (u51003000:Value).ownBlock)) (HO51019.out) (fun k_ hk=>⟨⟨hk.1,⟨hk.2.2.2.1,⟨hk.2.2.2.2.1,hk.2.2.2.2.2⟩⟩⟩,hk.2.2.1⟩))).2.1 (Kd.N_F (Kd.N_mono (ok':=(fun k_=>((fun k_=>(w.heap.size≤k_)∧k_ ≠ gb51001∧k_ ≠ gb51002∧k_ ≠ g)) k_∧some k_ ≠ (u51003000:Value).ownBlock)) (HO51019.out) (fun k_ hk=>⟨⟨hk.1,⟨hk.2.2.2.1,⟨hk.2.2.2.2.1,hk.2.2.2.2.2⟩⟩⟩,hk.2.2.1⟩))) (Kd.R_reads' (Kd.R_mono (ok':=(fun k_=>((fun k_=>(w.heap.size≤k_)∧k_ ≠ gb51001∧k_ ≠ gb51002∧k_ ≠ g)) k_∧some k_ ≠ (u51003000:Value).ownBlock)) (IsS69.apart HI0.out (Kd.R_types (Kd.R_types (Kd.R_apart' (HO51022.out) (Kd.N_typed HO_51003000.out) (by decide)) BK51001.out (by decide)) BK51002.out (by decide)) (by decide)) (fun k_ hk=>⟨⟨hk.1.1.1.1.1,⟨hk.1.1.2,⟨hk.1.2,hk.2⟩⟩⟩,hk.1.1.1.2⟩))).2.1 (Kd.R_F (Kd.R_mono (ok':=(fun k_=>((fun k_=>(w.heap.size≤k_)∧k_ ≠ gb51001∧k_ ≠ gb51002∧k_ ≠ g)) k_∧some k_ ≠ (u51003000:Value).ownBlock)) (IsS69.apart HI0.out (Kd.R_types (Kd.R_types (Kd.R_apart' (HO51022.out) (Kd.N_typed HO_51003000.out) (by decide)) BK51001.out (by decide)) BK51002.out (by decide)) (by decide)) (fun k_ hk=>⟨⟨hk.1.1.1.1.1,⟨hk.1.1.2,⟨hk.1.2,hk.2⟩⟩⟩,hk.1.1.1.2⟩)))))
    (case aF=>exact (fun k_ hk=>⟨(Nat.le_trans (keep_size (w:=w) (g:=g) (row:=none) za30) hk),Kd.freshB (g:=gb51001) (o:=.cells #[.slice none 0 0] 37 (0,0)) (za1 BK51001.out) k_ hk,Kd.freshB (g:=gb51002) (o:=.cells #[u51003000] 37 (0,0)) (za1 BK51002.out) k_ hk,IsS69.fresh za35 k_ hk⟩))
    (case aO=>exact (by (with_reducible repeat (first|apply Kd.N_alloc|apply Kd.N_drewN|apply Kd.N_drew));exact Kd.N_mono HO_51003000.out (fun _ hk=>⟨hk.1.1.1,⟨hk.1.1.2.1,⟨hk.1.1.2.2.1,hk.1.1.2.2.2⟩⟩⟩)))
    (case aS=>exact (keep_size (w:=w) (g:=g) (row:=none) za30))
    (case aL=>have:=LMc17.out;omega)
    intro v51027 w20 ho hb hg hat
    rw [← Ny51026.out] at ho
    replace BK51001:=zk (blk_grown (g:=gb51001) (o:=.cells #[.slice none 0 0] 37 (0,0)) (za1 BK51001.out) hg (Kd.N_ne HO_51003000.out BK51001.out (by decide)))
    replace BK51002:=zk (blk_grown (g:=gb51002) (o:=.cells #[u51003000] 37 (0,0)) (za1 BK51002.out) hg (Kd.N_ne HO_51003000.out BK51002.out (by decide)))
    replace HB:=zk (below_weaken za44 HL.out hb)
    replace HK:=zk (KeepBut.trans za30 (KeepBut.of_grown hg g) (Kd.N_base2 HO_51003000.out))
    have HO51028:=zk (ho)
    replace HI0:=zk (IsS69.grown za35 hg (IsS69.own_neN HI0.out HO_51003000.out (by decide)))
    clear HO_51003000
    clear HO51019
    clear HO51022
    clear ho hb hg hat
    obtain ⟨Ao23,co23,eo23⟩:=Kd.N_slice HO51028.out
    (first|subst eo23|(injection eo23 with f1_ f2_ f3_;have f4_:=f1_.symm;have f5_:=f3_.symm;clear f1_ f2_ f3_;subst f4_;subst f5_))
    refine hK.out _ _ ((blk_cell BK51002.out 0).trans rfl) (fun hHeld=>?_)
    clear hK K
    refine zno (some 28) ?_
    refine zy 7 (some 29) HT_.out ?_
    refine last_ (i:=8) (N:=none) #[true,true,true,true,true,true,true,true,true] rfl rfl (one_of HT_.out (by kernel_rfl)) (by decide) (fun K hK=>?_)
    have hs24:w20.cell? ⟨gb51002,0,none⟩=some (u51003000):=(blk_cell BK51002.out 0).trans rfl
    have hfs24:=blk_frozen BK51002.out 0
    have hns24_0:=NB51001_51002.out
    have hms24_0:=NB51002_51001.out
    refine skip_ (w1:=?_) (by rfl) rfl ?_ ?_
    rotate_left
    ·go_simp
     rfl
    refine hK.out _ _ ?_
    clear hK K
    refine done_ (done_of HT_.out (by kernel_rfl)) ?_
    try go_wp2
    go_roundg k1
    case measure=>have:=HK1.out;omega
    case rel=>exact ⟨(wrap64 (x8_1+1)),(t51024),(t51025),(y51026),(.slice Ao23 y51026.length co23),za8,H',⟨za60⟩,⟨by (with_reducible repeat (first|apply Kd.N_alloc|apply Kd.N_drewN|apply Kd.N_drew));exact Kd.N_mono (zfN (Kd.N_mono HO51028.out (fun k_ hk=>(⟨hk,hk.2.2.1⟩:_∧k_ ≠ gb51002)))) (fun _ hk=>⟨hk.1.1,⟨hk.1.2.1,⟨hk.1.2.2.1,hk.1.2.2.2⟩⟩⟩)⟩,⟨za98⟩,⟨zpu BK51002.out⟩,⟨za35⟩,⟨za30⟩,⟨za44⟩⟩
   ·rw [if_neg c17] at H
    exact absurd H (by simp)
   ·rw [if_neg c15] at H
    have c15b0:=zdnl c15
    have c15w:decide (x8_1 < (IntKind.i64.wrap (1+t51009)))=false:=by simp only [i64_w];exact c15b0
    clear c15
    simp only [Option.some.injEq,Prod.mk.injEq] at H
    obtain ⟨rfl,rfl,rfl⟩:=H
    have hnb25:=NB51002_51001.out
    have hnc25:=NB51001_51002.out
    have hnb26:=NB51002_0.out
    have hnc26:=NB0_51002.out
    obtain ⟨hcz27_0,hfz27_0⟩:=blk1 BK51002.out
    obtain ⟨Ao28,co28,eo28⟩:=Kd.N_slice HO_51003000.out
    subst eo28
    have hnb29:=NB51001_0.out
    have hnc29:=NB0_51001.out
    obtain ⟨hcz30_0,hfz30_0⟩:=blk1 BK51001.out
    go_wp2
    refine bodyPost_ret (results_cell_row rfl _ _ gb51001 37 #[.slice Ao28 x51003000_1.length co28] (0,0) _ rfl (zpu BK51001.out) Try.underlying37 rfl (by kernel_rfl)) rfl ?_
    exact ⟨_,za9,by (with_reducible repeat (first|apply Kd.N_alloc|apply Kd.N_drewN|apply Kd.N_drew));exact Kd.N_mono (zfN (Kd.N_mono HO_51003000.out (fun k_ hk=>(⟨hk,hk.2.1⟩:_∧k_ ≠ gb51001)))) (fun _ hk=>hk.1.1),za35,za44,za30⟩
def spec_l10Bent.l0:Nat→List Int→Int→Int→List (S61)→Option ((List (S61)) × Int × Int)
 | 0,_,_,_,_=>none
 | k+1,x1000,x1001,x1002,x36008000=>if (x36008000.length:Int) < 7 then ((spec_l9Draw.f k x1000 x1001 x1002 (⟨#[88]⟩:ByteArray)).bind fun bt36026=>(if x36008000.length < 1172812402961 then (spec_l10Bent.l0 k x1000 bt36026.2.2.2.2.2.2.2.2.1 bt36026.2.2.2.2.2.2.2.2.2 (x36008000 ++ [(⟨bt36026.1,bt36026.2.1,bt36026.2.2.1,(⟨bt36026.2.2.2.1,bt36026.2.2.2.2.1,bt36026.2.2.2.2.2.1⟩:S58),bt36026.2.2.2.2.2.2.1,bt36026.2.2.2.2.2.2.2.1⟩:S61)])) else (none))) else (some (x36008000,x1001,x1002))
def spec_l10Bent.f (k:Nat) (s0_0:List Int) (s0_1:Int) (s0_2:Int):Option ((List (S61)) × Int × Int):=(spec_l10Draw.f k s0_0 s0_1 s0_2 3).bind fun bt36002=>((spec_l1Below.f s0_0 bt36002.2.1 bt36002.2.2 12).bind fun bt36008=>(if bt36008.1=0 then ((spec_l9Bent.f k s0_0 bt36008.2.1 bt36008.2.2).bind fun bt36011=>(if 0 < (bt36002.1.length:Int) then (some ((bt36002.1.set (0:Int).toNat (⟨bt36011.1,bt36011.2.1,bt36011.2.2.1,(⟨bt36011.2.2.2.1,bt36011.2.2.2.2.1,bt36011.2.2.2.2.2.1⟩:S58),bt36011.2.2.2.2.2.2.1,bt36011.2.2.2.2.2.2.2.1⟩:S61)),bt36011.2.2.2.2.2.2.2.2.1,bt36011.2.2.2.2.2.2.2.2.2)) else (none))) else (if bt36008.1=1 then (spec_l10Bent.l0 k s0_0 bt36008.2.1 bt36008.2.2 bt36002.1) else (some (bt36002.1,bt36008.2.1,bt36008.2.2)))))
def spec_l10Bent.T7:Bool × List (List Nat × List Nat):=(true,[([],[]),([0],[0]),([],[]),([2],[2]),([3],[3]),([1,4,3],[1,4]),([0,1,2,3,4,5],[]),([6,5,5,0,1,2,3,4,5],[5,6])])
def spec_l10Bent.B7:List Nat:=[0,1,0,4,12,31,63,127]
theorem spec_l10Bent.tab7:rtab .any (opsOf Try.f36 7)=spec_l10Bent.T7:=by kernel_rfl
theorem spec_l10Bent.bits7:waitsOk spec_l10Bent.T7.2 spec_l10Bent.B7=true:=by kernel_rfl
theorem spec_l10Bent.calls (k:Nat) (g:Nat) (s0_0:List Int) (s0_1:Int) (s0_2:Int) (r1:List (S61)) (r2:Int) (r3:Int) (w0 w:World) (hI:IsS69 w0 w g s0_0 s0_1 s0_2) (hB:Below w0.heap.size w0 w) (h:spec_l10Bent.f k s0_0 s0_1 s0_2=some (r1,r2,r3)) :
  Calls Try.prog 36 #[.pointer (some ⟨g,0,none⟩)] w fun e w'=>∃ v0_:Value,e = .returned (.agg #[v0_])∧Kd.N k61 61 w' w.heap.size (fun k_=>(w.heap.size≤k_)) v0_ r1∧IsS69 w0 w' g s0_0 r2 r3∧Below w0.heap.size w0 w'∧KeepBut w w' g none:=by
 have hu37:=Try.underlying37
 have hu61:=Try.underlying61
 have HI0:=zk hI
 have HK:=zk (KeepBut.refl w g none)
 have HL:=zk hB.size
 clear hI
 have HW0:=zk hB.size
 have HB:=zk hB
 clear hB
 have H:=h
 unfold spec_l10Bent.f at H
 clear h
 replace H:=zo H
 obtain ⟨⟨t36002,t36005,t36006⟩,A20,H⟩:=H
 try dsimp only at H
 have A2:=zk A20
 clear A20
 replace H:=zo H
 obtain ⟨⟨t36008,t36009,t36010⟩,A30,H⟩:=H
 try dsimp only at H
 have A3:=zk A30
 clear A30
 by_cases c4:t36008=0
 ·rw [if_pos c4] at H
  have c4b0:=zbt c4
  have c4b1:=zqn c4
  clear c4
  replace H:=zo H
  obtain ⟨⟨t36011,t36012,t36013,t36014,t36015,t36016,t36019,t36022,t36023,t36024⟩,A50,H⟩:=H
  try dsimp only at H
  have A5:=zk A50
  clear A50
  by_cases c6:0 < (t36002.length:Int)
  ·rw [if_pos c6] at H
   have c6b0:=zdl c6
   have c6b1:decide (0 < t36002.length)=true:=decide_eq_true (by omega)
   clear c6
   obtain ⟨y36025,hy36025⟩:∃ y_:List (S61),y_=(t36002.set (0:Int).toNat (⟨t36011,t36012,t36013,(⟨t36014,t36015,t36016⟩:S58),t36019,t36022⟩:S61)):=⟨_,rfl⟩
   replace H:(some (y36025,t36023,t36024))=some (r1,r2,r3):=by first|(rw [hy36025];with_reducible exact H)|(have H2_:=(Option.bind_some _ _).symm.trans H;rw [hy36025];with_reducible exact H2_)|(have H2_:=(Option.bind_some _ _).symm.trans H;with_reducible exact H2_)|with_reducible exact H|(rw [hy36025];exact H)|exact H
   have Ny36025:=zk hy36025
   clear hy36025
   simp only [Option.some.injEq,Prod.mk.injEq] at H
   obtain ⟨rfl,rfl,rfl⟩:=H
   go_enter Try.func36,Try.ntmps36
   try go_wp2_with (first|((with_reducible refine gate_dst (N:=2) rfl ?_);refine zE (N:=2) (cs:=#[.slice none 0 0]) (t:=37) ?_;intro gb36001 hg w8 hbox hb;replace HB:=zk (below_step za12 hb);have BK36001:=zk (hbox);have GW36001:=zk ((by rw [hg];exact (keep_size (w:=w) (g:=g) (row:=none) za6):w.heap.size≤gb36001));have GE36001:=zk ((Nat.le_trans HW0.out (by rw [hg];exact (keep_size (w:=w) (g:=g) (row:=none) za6):w.heap.size≤gb36001):w0.heap.size≤gb36001));have NB0_36001:=zk ((by rw [hg];exact Nat.ne_of_lt (IsS69.lt (show IsS69 w0 _ g s0_0 s0_1 s0_2 from za5)):g ≠ gb36001));have NB36001_0:=zk ((by rw [hg];exact Nat.ne_of_gt (IsS69.lt (show IsS69 w0 _ g s0_0 s0_1 s0_2 from za5)):gb36001 ≠ g));replace HI0:=zk (IsS69.below za5 hb);replace HK:=zk (KeepBut.trans za6 (KeepBut.of_below hb g none) (.inl rfl));clear hb hbox hg)|((with_reducible refine gate_callee (f:=51) rfl ?_);refine goesL_ (some 5) rfl rfl Try.func51 (by kernel_rfl) rfl #[.pointer (some ⟨g,0,none⟩),.int .i64 3] rfl za4 ?_;(with_reducible refine (spec_l10Draw.calls k g s0_0 s0_1 s0_2 3 t36002 t36005 t36006 w0 _ za34 za62 A2.out).mono ?_);rintro e w9 ⟨v36003,rfl,ho0,hi,hb,hk⟩;refine ⟨_,rfl,?_⟩;have HO36004:=zk (Kd.N_lower (Kd.N_mono (ok':=fun k_=>(w.heap.size≤k_)∧k_ ≠ gb36001∧k_ ≠ g) ho0 (fun k_ hk_=>⟨(Nat.le_trans (keep_size (w:=w) (g:=g) (row:=none) za32) hk_),(Kd.freshB (g:=gb36001) (o:=.cells #[.slice none 0 0] 37 (0,0)) (za1 BK36001.out) k_ hk_),(IsS69.fresh za34 k_ hk_)⟩)) (keep_size (w:=w) (g:=g) (row:=none) za32));replace HB:=zk (hb);replace BK36001:=zk (KeepBut.blk hk (g':=gb36001) (o:=.cells #[.slice none 0 0] 37 (0,0)) (za1 BK36001.out) NB36001_0.out (by simp));replace HK:=zk (KeepBut.trans za32 hk (.inl rfl));replace HI0:=zk (hi);(try clear hb);(try clear hb2);(try clear hk);(try clear hi);(try clear ho0))|((with_reducible refine gate_dst (N:=3) rfl ?_);refine zE (N:=3) (cs:=#[.slice none 0 0]) (t:=37) ?_;intro gb36007 hg w10 hbox hb;replace HO36004:=zk (Kd.N_below (Kd.N_elderB (za2 HO36004.out) gb36007 (Nat.le_of_eq hg.symm)) hb);replace HB:=zk (below_step za62 hb);have BK36007:=zk (hbox);have GW36007:=zk ((by rw [hg];exact (keep_size (w:=w) (g:=g) (row:=none) za32):w.heap.size≤gb36007));have GE36007:=zk ((Nat.le_trans HW0.out (by rw [hg];exact (keep_size (w:=w) (g:=g) (row:=none) za32):w.heap.size≤gb36007):w0.heap.size≤gb36007));have NB36001_36007:=zk ((by rw [hg];exact Nat.ne_of_lt (zl BK36001.out):gb36001 ≠ gb36007));have NB36007_36001:=zk ((by rw [hg];exact Nat.ne_of_gt (zl BK36001.out):gb36007 ≠ gb36001));have NB0_36007:=zk ((by rw [hg];exact Nat.ne_of_lt (IsS69.lt (show IsS69 w0 _ g s0_0 t36005 t36006 from za34)):g ≠ gb36007));have NB36007_0:=zk ((by rw [hg];exact Nat.ne_of_gt (IsS69.lt (show IsS69 w0 _ g s0_0 t36005 t36006 from za34)):gb36007 ≠ g));replace HI0:=zk (IsS69.below za34 hb);replace BK36001:=zk (zb BK36001.out hb);replace HK:=zk (KeepBut.trans za32 (KeepBut.of_below hb g none) (.inl rfl));clear hb hbox hg;obtain ⟨Ao11,co11,eo11⟩:=Kd.N_slice HO36004.out;subst eo11;have hnb12:=NB36007_36001.out;have hnc12:=NB36001_36007.out;have hnb13:=NB36007_0.out;have hnc13:=NB0_36007.out;have hcz14_0:w10.cell? ⟨gb36007,0,none⟩=some (.slice none 0 0):=(blk_cell BK36007.out 0).trans rfl;have hfz14_0:=blk_frozen BK36007.out 0)|((with_reducible refine gate_callee (f:=42) rfl ?_);refine goesL_ (some 7) rfl rfl Try.func42 (by kernel_rfl) rfl #[.pointer (some ⟨g,0,none⟩),.int .i64 12] rfl za4 ?_;(with_reducible refine (spec_l1Below.calls g s0_0 t36005 t36006 12 t36008 t36009 t36010 w0 _ za31 za37 A3.out).mono ?_);rintro e w15 ⟨rfl,hi,hb,hk⟩;refine ⟨_,rfl,?_⟩;replace BK36001:=zk (KeepBut.blk hk (g':=gb36001) (o:=.cells #[.slice none 0 0] 37 (0,0)) za72 NB36001_0.out (by simp));replace HO36004:=zk (Kd.N_mono (Kd.N_keep (Kd.N_mono (ok:=fun k_=>((((w.heap.size≤k_))∧(k_ ≠ gb36001∧k_ ≠ g))∧k_ ≠ gb36007)) za82 (fun k_ hk_=>(⟨hk_,hk_.1.2.2⟩:_∧k_ ≠ g))) hk (fun _ h=>h.2)) (fun _ h=>h.1));replace BK36007:=zk (KeepBut.blk hk (g':=gb36007) (o:=.cells #[.slice Ao11 t36002.length co11] 37 (0,0)) (zpu BK36007.out) NB36007_0.out (by simp));replace HK:=zk (KeepBut.trans za23 hk (.inl rfl));replace HB:=zk (hb);replace HI0:=zk (hi);(try clear hb);(try clear hb2);(try clear hk);(try clear hi)))
   replace HO36004:=zk (Kd.N_drew HO36004.out)
   replace BK36001:=zk (blk_drew BK36001.out)
   replace BK36007:=zk (blk_drew BK36007.out)
   replace HI0:=zk (IsS69.drew HI0.out)
   replace HK:=zk (keep_drew HK.out)
   replace HB:=zk (below_drew1 HB.out)
   refine start_ (n:=6) (S:=fun w'=>w'.cell? ⟨gb36007,0,none⟩=some (.slice Ao11 t36002.length co11)) (ds:=[5]) #[false,false,false,false,false,false] (by kernel_rfl) rfl rfl ((blk_cell BK36007.out 0).trans rfl) (fun hHeld=>?_)
   generalize w15.drew=w16 at HO36004 BK36001 BK36007 HI0 HK HB hHeld ⊢
   refine zyk 0 (some 10) ?_
   refine zyk 2 (some 12) ?_
   refine ztkk 1 (some 11) hHeld ?_
   refine one_ (i:=3) (N:=some 13) #[true,true,true,true,false,false] rfl rfl (by kernel_rfl) (by decide) (fun K hK=>?_)
   refine goes_ Try.func52 (by kernel_rfl) rfl #[.pointer (some ⟨g,0,none⟩)] (by rfl) rfl rfl za4 ?_
   with_reducible refine (spec_l9Bent.calls k g s0_0 t36009 t36010 t36011 t36012 t36013 t36014 t36015 t36016 t36019 t36022 t36023 t36024 w0 _ za31 za37 A5.out).mono ?_
   rintro e w17 ⟨v36017,v36020,rfl,ho0,ho1,hi,hb,hk⟩
   refine ⟨_,rfl,?_⟩
   have HO36018:=zk (Kd.N_lower (Kd.N_mono (ok':=fun k_=>(w.heap.size≤k_)∧some k_ ≠ (v36020:Value).ownBlock∧some k_ ≠ (.slice Ao11 t36002.length co11:Value).ownBlock∧k_ ≠ gb36001∧k_ ≠ gb36007∧k_ ≠ g) ho0 (fun k_ hk_=>⟨(Nat.le_trans (keep_size (w:=w) (g:=g) (row:=none) za23) hk_.1),hk_.2,(Kd.fresh' (Kd.N_lt (za2 HO36004.out)) k_ hk_.1),(Kd.freshB (g:=gb36001) (o:=.cells #[.slice none 0 0] 37 (0,0)) (za1 BK36001.out) k_ hk_.1),(Kd.freshB (g:=gb36007) (o:=.cells #[.slice Ao11 t36002.length co11] 37 (0,0)) (za1 BK36007.out) k_ hk_.1),(IsS69.fresh za31 k_ hk_.1)⟩)) (keep_size (w:=w) (g:=g) (row:=none) za23))
   have HO36021:=zk (Kd.R_lower (Kd.R_newM (M:=fun k_=>(w.heap.size≤k_)) (Kd.R_mono (ok':=fun k_=>True) ho1 (fun _ hk_=>trivial)) (keep_size (w:=w) (g:=g) (row:=none) za23) (fun k_ h_=>h_)) (keep_size (w:=w) (g:=g) (row:=none) za23))
   replace HB:=zk (hb)
   replace BK36001:=zk (KeepBut.blk hk (g':=gb36001) (o:=.cells #[.slice none 0 0] 37 (0,0)) (za1 BK36001.out) NB36001_0.out (by simp))
   replace HO36004:=zk (Kd.N_mono (Kd.N_told (Kd.N_told (Kd.N_oldK (Kd.N_mono (ok:=fun k_=>((((w.heap.size≤k_))∧(k_ ≠ gb36001∧k_ ≠ g))∧k_ ≠ gb36007)) (za2 HO36004.out) (fun k_ hk_=>(⟨hk_,hk_.1.2.2⟩:_∧k_ ≠ g))) hk) (Kd.N_base ho0)) (Kd.R_base ho1)) (fun _ h_=>h_.1))
   replace BK36007:=zk (KeepBut.blk hk (g':=gb36007) (o:=.cells #[.slice Ao11 t36002.length co11] 37 (0,0)) (za1 BK36007.out) NB36007_0.out (by simp))
   replace HK:=zk (KeepBut.trans za23 hk (.inl rfl))
   replace HI0:=zk (hi)
   (try clear hb)
   (try clear hb2)
   (try clear hk)
   (try clear hi)
   (try clear ho0)
   (try clear ho1)
   have p7:0≤(0:Int):=(by omega)
   have q7:(0:Int) < ((t36002.length:Int):Int):=of_decide_eq_true za7
   have qi7:(0 < t36002.length)=True:=eq_true (by omega)
   obtain ⟨go7,co7,eo7,gb7,gl7,cl7,HG7⟩:=Kd.N_form HO36004.out (by omega)
   (first|cases eo7|(injection eo7 with ea_ en_ ec_;(first|subst ea_|(injection ea_ with ea_;subst ea_));subst ec_;clear en_))
   have GB7:=zk gb7
   have GG7:=zk HG7
   clear gb7 gl7 HG7
   obtain ⟨ce7,hcl7,hM7,hcc7,hfr7⟩:=Kd.N_elem HO36004.out z61 (0:Int) p7 q7
   obtain ⟨ua7_5,uc7_5,ua7_6,uc7_6,rfl,ul7_5,ge7_5,ul7_6,ge7_6⟩:=k61_openF hM7
   have hx7_0:World.cell? _ ⟨go7,(0:Int).toNat * 8,none⟩=some (.int .i64 ((rd_T61 t36002 0).f0)):=hcc7 0 _ rfl
   have hx7_1:World.cell? _ ⟨go7,(0:Int).toNat * 8+1,none⟩=some (.string ((rd_T61 t36002 0).f1)):=hcc7 1 _ rfl
   have hx7_2:World.cell? _ ⟨go7,(0:Int).toNat * 8+2,none⟩=some (.string ((rd_T61 t36002 0).f2)):=hcc7 2 _ rfl
   have hx7_3:World.cell? _ ⟨go7,(0:Int).toNat * 8+3,none⟩=some (.int .i64 ((rd_T61 t36002 0).f3.f0)):=hcc7 3 _ rfl
   have hx7_4:World.cell? _ ⟨go7,(0:Int).toNat * 8+4,none⟩=some (.string ((rd_T61 t36002 0).f3.f1)):=hcc7 4 _ rfl
   have hx7_5:World.cell? _ ⟨go7,(0:Int).toNat * 8+5,none⟩=some (.slice ua7_5 ((rd_T61 t36002 0).f3.f2).length uc7_5):=hcc7 5 _ rfl
   have hx7_6:World.cell? _ ⟨go7,(0:Int).toNat * 8+6,none⟩=some (.slice ua7_6 ((rd_T61 t36002 0).f4).length uc7_6):=hcc7 6 _ rfl
   have hx7_7:World.cell? _ ⟨go7,(0:Int).toNat * 8+7,none⟩=some (.int .i64 ((rd_T61 t36002 0).f5)):=hcc7 7 _ rfl
   have hf7_0:World.frozen? _ ⟨go7,(0:Int).toNat * 8,none⟩=false:=hfr7 0
   have hf7_1:World.frozen? _ ⟨go7,(0:Int).toNat * 8+1,none⟩=false:=hfr7 1
   have hf7_2:World.frozen? _ ⟨go7,(0:Int).toNat * 8+2,none⟩=false:=hfr7 2
   have hf7_3:World.frozen? _ ⟨go7,(0:Int).toNat * 8+3,none⟩=false:=hfr7 3
   have hf7_4:World.frozen? _ ⟨go7,(0:Int).toNat * 8+4,none⟩=false:=hfr7 4
   have hf7_5:World.frozen? _ ⟨go7,(0:Int).toNat * 8+5,none⟩=false:=hfr7 5
   have hf7_6:World.frozen? _ ⟨go7,(0:Int).toNat * 8+6,none⟩=false:=hfr7 6
   have hf7_7:World.frozen? _ ⟨go7,(0:Int).toNat * 8+7,none⟩=false:=hfr7 7
   clear hcl7 hcc7 hfr7;(try clear hM7)
   (try rw [show ((0:Int)).toNat=0 from rfl] at hx7_0)
   (try simp only [Nat.reduceMul,Nat.zero_mul,Nat.zero_add,Nat.reduceAdd] at hx7_0)
   (try rw [show ((0:Int)).toNat=0 from rfl] at hf7_0)
   (try simp only [Nat.reduceMul,Nat.zero_mul,Nat.zero_add,Nat.reduceAdd] at hf7_0)
   (try rw [show ((0:Int)).toNat=0 from rfl] at hx7_1)
   (try simp only [Nat.reduceMul,Nat.zero_mul,Nat.zero_add,Nat.reduceAdd] at hx7_1)
   (try rw [show ((0:Int)).toNat=0 from rfl] at hf7_1)
   (try simp only [Nat.reduceMul,Nat.zero_mul,Nat.zero_add,Nat.reduceAdd] at hf7_1)
   (try rw [show ((0:Int)).toNat=0 from rfl] at hx7_2)
   (try simp only [Nat.reduceMul,Nat.zero_mul,Nat.zero_add,Nat.reduceAdd] at hx7_2)
   (try rw [show ((0:Int)).toNat=0 from rfl] at hf7_2)
   (try simp only [Nat.reduceMul,Nat.zero_mul,Nat.zero_add,Nat.reduceAdd] at hf7_2)
   (try rw [show ((0:Int)).toNat=0 from rfl] at hx7_3)
   (try simp only [Nat.reduceMul,Nat.zero_mul,Nat.zero_add,Nat.reduceAdd] at hx7_3)
   (try rw [show ((0:Int)).toNat=0 from rfl] at hf7_3)
   (try simp only [Nat.reduceMul,Nat.zero_mul,Nat.zero_add,Nat.reduceAdd] at hf7_3)
   (try rw [show ((0:Int)).toNat=0 from rfl] at hx7_4)
   (try simp only [Nat.reduceMul,Nat.zero_mul,Nat.zero_add,Nat.reduceAdd] at hx7_4)
   (try rw [show ((0:Int)).toNat=0 from rfl] at hf7_4)
   (try simp only [Nat.reduceMul,Nat.zero_mul,Nat.zero_add,Nat.reduceAdd] at hf7_4)
   (try rw [show ((0:Int)).toNat=0 from rfl] at hx7_5)
   (try simp only [Nat.reduceMul,Nat.zero_mul,Nat.zero_add,Nat.reduceAdd] at hx7_5)
   (try rw [show ((0:Int)).toNat=0 from rfl] at hf7_5)
   (try simp only [Nat.reduceMul,Nat.zero_mul,Nat.zero_add,Nat.reduceAdd] at hf7_5)
   (try rw [show ((0:Int)).toNat=0 from rfl] at hx7_6)
   (try simp only [Nat.reduceMul,Nat.zero_mul,Nat.zero_add,Nat.reduceAdd] at hx7_6)
   (try rw [show ((0:Int)).toNat=0 from rfl] at hf7_6)
   (try simp only [Nat.reduceMul,Nat.zero_mul,Nat.zero_add,Nat.reduceAdd] at hf7_6)
   (try rw [show ((0:Int)).toNat=0 from rfl] at hx7_7)
   (try simp only [Nat.reduceMul,Nat.zero_mul,Nat.zero_add,Nat.reduceAdd] at hx7_7)
   (try rw [show ((0:Int)).toNat=0 from rfl] at hf7_7)
   (try simp only [Nat.reduceMul,Nat.zero_mul,Nat.zero_add,Nat.reduceAdd] at hf7_7)
   replace p7:=eq_true p7
   replace q7:=eq_true q7
   have HN0_go7:=zk (show g ≠ go7 from by have h_:=IsS69.own_neN HI0.out HO36004.out (by decide);intro e_;exact h_ (by rw [e_];rfl))
   have HX18:=zk (show Kd.N k61 61 _ w.heap.size (fun k_=>(w.heap.size≤k_)∧some k_ ≠ (v36017:Value).ownBlock∧some k_ ≠ (v36020:Value).ownBlock∧k_ ≠ gb36001∧k_ ≠ gb36007∧k_ ≠ g) (.slice (some ⟨go7,0,none⟩) t36002.length co11) t36002 from (Kd.N_mono (HO36004.out) (fun k_ hk=>⟨hk.1.1.1.1,⟨hk.1.2,⟨hk.2,⟨hk.1.1.1.2.1,⟨hk.1.1.2,hk.1.1.1.2.2⟩⟩⟩⟩⟩)))
   replace HX18:=zk (show Kd.N k61 61 _ w.heap.size (fun k_=>(w.heap.size≤k_)∧k_ ≠ gb36001∧k_ ≠ gb36007∧k_ ≠ g) (.slice (some ⟨go7,0,none⟩) t36002.length co11) t36002 from Kd.N_mono HX18.out (fun k_ hk=>⟨hk.1,⟨hk.2.2.2.1,⟨hk.2.2.2.2.1,hk.2.2.2.2.2⟩⟩⟩))
   obtain ⟨ce18,hcl18,hM18,hcc18,hfr18⟩:=Kd.N_elem HX18.out z61 (0:Int) (by omega) (by have h_:(0:Int) < ((t36002.length:Int):Int):=of_decide_eq_true za7;first|exact h_|(have e_:=(Kd.N_reads' HO36004.out).1;omega)|simpa using h_)
   obtain ⟨ua18_5,uc18_5,ua18_6,uc18_6,rfl,ul18_5,ge18_5,ul18_6,ge18_6⟩:=k61_openF hM18
   obtain ⟨sA0_,sc0_,se0_⟩:=Kd.N_slice HO36018.out
   subst se0_
   obtain ⟨sA1_,sc1_,se1_⟩:=Kd.R_slice HO36021.out
   subst se1_
   have HP18:=(Kd.N_seg HX18.out (0:Int) (by omega) (by have h_:(0:Int) < ((t36002.length:Int):Int):=of_decide_eq_true za7;first|exact h_|(have e_:=(Kd.N_reads' HO36004.out).1;omega)|simpa using h_) (seg:=[.int .i64 t36011,.string t36012,.string t36013,.int .i64 t36014,.string t36015,(Value.slice sA0_ t36016.length sc0_),(Value.slice sA1_ t36019.length sc1_),.int .i64 t36022]) (j:=0) hcl18 hcc18 (show 8≤8 from by decide) (x':=(⟨t36011,t36012,t36013,(⟨t36014,t36015,t36016⟩:S58),t36019,t36022⟩:S61)) (k61_mkF _ _ (⟨t36011,t36012,t36013,(⟨t36014,t36015,t36016⟩:S58),t36019,t36022⟩:S61) (Kd.N_reads' (Kd.N_mono (ok':=(fun k_=>((fun k_=>(w.heap.size≤k_)∧k_ ≠ gb36001∧k_ ≠ gb36007∧k_ ≠ g)) k_∧k_ ≠ go7)) (HO36018.out) (fun k_ hk=>⟨⟨hk.1,⟨hk.2.2.2.1,⟨hk.2.2.2.2.1,hk.2.2.2.2.2⟩⟩⟩,fun e_=>(hk.2.2.1) (by rw [e_];rfl)⟩))).2.1 (Kd.N_F (Kd.N_mono (ok':=(fun k_=>((fun k_=>(w.heap.size≤k_)∧k_ ≠ gb36001∧k_ ≠ gb36007∧k_ ≠ g)) k_∧k_ ≠ go7)) (HO36018.out) (fun k_ hk=>⟨⟨hk.1,⟨hk.2.2.2.1,⟨hk.2.2.2.2.1,hk.2.2.2.2.2⟩⟩⟩,fun e_=>(hk.2.2.1) (by rw [e_];rfl)⟩))) (Kd.R_reads' (Kd.R_mono (ok':=(fun k_=>((fun k_=>(w.heap.size≤k_)∧k_ ≠ gb36001∧k_ ≠ gb36007∧k_ ≠ g)) k_∧k_ ≠ go7)) (IsS69.apart HI0.out (Kd.R_types (Kd.R_types (Kd.R_apart' (HO36021.out) (Kd.N_typed HO36004.out) (by decide)) BK36001.out (by decide)) BK36007.out (by decide)) (by decide)) (fun k_ hk=>⟨⟨hk.1.1.1.1.1,⟨hk.1.1.2,⟨hk.1.2,hk.2⟩⟩⟩,fun e_=>(hk.1.1.1.2) (by rw [e_];rfl)⟩))).2.1 (Kd.R_F (Kd.R_mono (ok':=(fun k_=>((fun k_=>(w.heap.size≤k_)∧k_ ≠ gb36001∧k_ ≠ gb36007∧k_ ≠ g)) k_∧k_ ≠ go7)) (IsS69.apart HI0.out (Kd.R_types (Kd.R_types (Kd.R_apart' (HO36021.out) (Kd.N_typed HO36004.out) (by decide)) BK36001.out (by decide)) BK36007.out (by decide)) (by decide)) (fun k_ hk=>⟨⟨hk.1.1.1.1.1,⟨hk.1.1.2,⟨hk.1.2,hk.2⟩⟩⟩,fun e_=>(hk.1.1.1.2) (by rw [e_];rfl)⟩)))) (fun _ hk=>hk)).1
   rw [← Ny36025.out] at HP18
   have HQ18:=zk HP18
   clear hcl18 hcc18 hfr18 HP18;(try clear hM18)
   refine hK.out _ _ ((blk_cell BK36007.out 0).trans rfl) (fun hHeld=>?_)
   clear hK K
   refine zno (some 13) ?_
   refine zyk 4 (some 14) ?_
   refine last_ (i:=5) (N:=none) #[true,true,true,true,true,true] rfl rfl (by kernel_rfl) (by decide) (fun K hK=>?_)
   refine skip_ (w1:=?_) (by rfl) rfl ?_ ?_
   rotate_left
   ·go_simp
    rfl
   refine hK.out _ _ ?_
   clear hK K
   refine done_ (by kernel_rfl) ?_
   have n0_:Aside0 (Kd.N k61 61 ((((((((w17.setCell ⟨go7,0,none⟩ (.int .i64 t36011)).setCell ⟨go7,1,none⟩ (.string t36012)).setCell ⟨go7,2,none⟩ (.string t36013)).setCell ⟨go7,3,none⟩ (.int .i64 t36014)).setCell ⟨go7,4,none⟩ (.string t36015)).setCell ⟨go7,5,none⟩ ((Value.slice sA0_ t36016.length sc0_))).setCell ⟨go7,6,none⟩ ((Value.slice sA1_ t36019.length sc1_))).setCell ⟨go7,7,none⟩ (.int .i64 t36022)) w.heap.size (fun k_=>(w.heap.size≤k_)∧k_ ≠ gb36001∧k_ ≠ g∧k_ ≠ gb36007) (.slice (some ⟨go7,0,none⟩) t36002.length co11) y36025):=⟨by (with_reducible repeat (first|apply Kd.N_alloc|apply Kd.N_drewN|apply Kd.N_drew));exact Kd.N_mono HQ18.out (fun _ hk=>⟨hk.1,⟨hk.2.1,⟨hk.2.2.2,hk.2.2.1⟩⟩⟩)⟩
   have n1_:Aside0 (((((((((w17.setCell ⟨go7,0,none⟩ (.int .i64 t36011)).setCell ⟨go7,1,none⟩ (.string t36012)).setCell ⟨go7,2,none⟩ (.string t36013)).setCell ⟨go7,3,none⟩ (.int .i64 t36014)).setCell ⟨go7,4,none⟩ (.string t36015)).setCell ⟨go7,5,none⟩ ((Value.slice sA0_ t36016.length sc0_))).setCell ⟨go7,6,none⟩ ((Value.slice sA1_ t36019.length sc1_))).setCell ⟨go7,7,none⟩ (.int .i64 t36022)).heap[gb36001]? = some (.cells #[.slice none 0 0] 37 (0,0))):=⟨by (with_reducible repeat (first|refine blk_drewN ?_ _|refine blk_drew ?_|refine blk_alloc ?_ _));refine blk_far ?_ za81 _;(with_reducible repeat (first|refine blk_drewN ?_ _|refine blk_drew ?_|refine blk_alloc ?_ _));refine blk_far ?_ za81 _;(with_reducible repeat (first|refine blk_drewN ?_ _|refine blk_drew ?_|refine blk_alloc ?_ _));refine blk_far ?_ za81 _;(with_reducible repeat (first|refine blk_drewN ?_ _|refine blk_drew ?_|refine blk_alloc ?_ _));refine blk_far ?_ za81 _;(with_reducible repeat (first|refine blk_drewN ?_ _|refine blk_drew ?_|refine blk_alloc ?_ _));refine blk_far ?_ za81 _;(with_reducible repeat (first|refine blk_drewN ?_ _|refine blk_drew ?_|refine blk_alloc ?_ _));refine blk_far ?_ za81 _;(with_reducible repeat (first|refine blk_drewN ?_ _|refine blk_drew ?_|refine blk_alloc ?_ _));refine blk_far ?_ za81 _;(with_reducible repeat (first|refine blk_drewN ?_ _|refine blk_drew ?_|refine blk_alloc ?_ _));refine blk_far ?_ za81 _;(with_reducible repeat (first|refine blk_drewN ?_ _|refine blk_drew ?_|refine blk_alloc ?_ _));exact BK36001.out⟩
   have n2_:Aside0 (((((((((w17.setCell ⟨go7,0,none⟩ (.int .i64 t36011)).setCell ⟨go7,1,none⟩ (.string t36012)).setCell ⟨go7,2,none⟩ (.string t36013)).setCell ⟨go7,3,none⟩ (.int .i64 t36014)).setCell ⟨go7,4,none⟩ (.string t36015)).setCell ⟨go7,5,none⟩ ((Value.slice sA0_ t36016.length sc0_))).setCell ⟨go7,6,none⟩ ((Value.slice sA1_ t36019.length sc1_))).setCell ⟨go7,7,none⟩ (.int .i64 t36022)).heap[gb36007]? = some (.cells #[.slice (some ⟨go7,0,none⟩) t36002.length co11] 37 (0,0))):=⟨by (with_reducible repeat (first|refine blk_drewN ?_ _|refine blk_drew ?_|refine blk_alloc ?_ _));refine blk_far ?_ za79 _;(with_reducible repeat (first|refine blk_drewN ?_ _|refine blk_drew ?_|refine blk_alloc ?_ _));refine blk_far ?_ za79 _;(with_reducible repeat (first|refine blk_drewN ?_ _|refine blk_drew ?_|refine blk_alloc ?_ _));refine blk_far ?_ za79 _;(with_reducible repeat (first|refine blk_drewN ?_ _|refine blk_drew ?_|refine blk_alloc ?_ _));refine blk_far ?_ za79 _;(with_reducible repeat (first|refine blk_drewN ?_ _|refine blk_drew ?_|refine blk_alloc ?_ _));refine blk_far ?_ za79 _;(with_reducible repeat (first|refine blk_drewN ?_ _|refine blk_drew ?_|refine blk_alloc ?_ _));refine blk_far ?_ za79 _;(with_reducible repeat (first|refine blk_drewN ?_ _|refine blk_drew ?_|refine blk_alloc ?_ _));refine blk_far ?_ za79 _;(with_reducible repeat (first|refine blk_drewN ?_ _|refine blk_drew ?_|refine blk_alloc ?_ _));refine blk_far ?_ za79 _;(with_reducible repeat (first|refine blk_drewN ?_ _|refine blk_drew ?_|refine blk_alloc ?_ _));exact BK36007.out⟩
   have n3_:Aside0 (IsS69 w0 ((((((((w17.setCell ⟨go7,0,none⟩ (.int .i64 t36011)).setCell ⟨go7,1,none⟩ (.string t36012)).setCell ⟨go7,2,none⟩ (.string t36013)).setCell ⟨go7,3,none⟩ (.int .i64 t36014)).setCell ⟨go7,4,none⟩ (.string t36015)).setCell ⟨go7,5,none⟩ ((Value.slice sA0_ t36016.length sc0_))).setCell ⟨go7,6,none⟩ ((Value.slice sA1_ t36019.length sc1_))).setCell ⟨go7,7,none⟩ (.int .i64 t36022)) g s0_0 t36023 t36024):=⟨by repeat (first|(with_reducible first|exact HI0.out|apply IsS69.alloc|apply IsS69.drewN|apply IsS69.drew|apply IsS69.set_1|apply IsS69.set_2|refine IsS69.far ?_ HN0_go7.out _|refine IsS69.far ?_ HN0_go7.out _|refine IsS69.far ?_ HN0_go7.out _|refine IsS69.far ?_ HN0_go7.out _|refine IsS69.far ?_ HN0_go7.out _|refine IsS69.far ?_ HN0_go7.out _|refine IsS69.far ?_ HN0_go7.out _|refine IsS69.far ?_ HN0_go7.out _|refine IsS69.far ?_ NB0_36001.out _|refine IsS69.far ?_ NB0_36007.out _)|exact HI0.out)⟩
   have n4_:Aside0 (KeepBut w ((((((((w17.setCell ⟨go7,0,none⟩ (.int .i64 t36011)).setCell ⟨go7,1,none⟩ (.string t36012)).setCell ⟨go7,2,none⟩ (.string t36013)).setCell ⟨go7,3,none⟩ (.int .i64 t36014)).setCell ⟨go7,4,none⟩ (.string t36015)).setCell ⟨go7,5,none⟩ ((Value.slice sA0_ t36016.length sc0_))).setCell ⟨go7,6,none⟩ ((Value.slice sA1_ t36019.length sc1_))).setCell ⟨go7,7,none⟩ (.int .i64 t36022)) g none):=⟨by repeat (first|(with_reducible first|exact HK.out|apply KeepBut.set_|apply keep_drewN|apply keep_drew|apply keep_alloc|refine keep_far ?_ GB7.out _|refine keep_far ?_ GB7.out _|refine keep_far ?_ GB7.out _|refine keep_far ?_ GB7.out _|refine keep_far ?_ GB7.out _|refine keep_far ?_ GB7.out _|refine keep_far ?_ GB7.out _|refine keep_far ?_ GB7.out _|refine keep_far ?_ GW36001.out _|refine keep_far ?_ GW36007.out _)|exact HK.out)⟩
   have n5_:Aside0 (Below w0.heap.size w0 ((((((((w17.setCell ⟨go7,0,none⟩ (.int .i64 t36011)).setCell ⟨go7,1,none⟩ (.string t36012)).setCell ⟨go7,2,none⟩ (.string t36013)).setCell ⟨go7,3,none⟩ (.int .i64 t36014)).setCell ⟨go7,4,none⟩ (.string t36015)).setCell ⟨go7,5,none⟩ ((Value.slice sA0_ t36016.length sc0_))).setCell ⟨go7,6,none⟩ ((Value.slice sA1_ t36019.length sc1_))).setCell ⟨go7,7,none⟩ (.int .i64 t36022))):=⟨by repeat (first|(with_reducible first|exact HB.out|apply below_alloc|apply pw_below_drewN|apply below_drew1|refine below_set ?_ (Nat.le_trans HL.out GB7.out)|refine below_set ?_ (Nat.le_trans HL.out GB7.out)|refine below_set ?_ (Nat.le_trans HL.out GB7.out)|refine below_set ?_ (Nat.le_trans HL.out GB7.out)|refine below_set ?_ (Nat.le_trans HL.out GB7.out)|refine below_set ?_ (Nat.le_trans HL.out GB7.out)|refine below_set ?_ (Nat.le_trans HL.out GB7.out)|refine below_set ?_ (Nat.le_trans HL.out GB7.out)|refine below_set ?_ (IsS69.ge HI0.out)|refine below_set ?_ GE36001.out|refine below_set ?_ GE36007.out)|exact HB.out)⟩
   (try clear HO36004)
   (try clear BK36001)
   (try clear BK36007)
   (try clear HI0)
   (try clear HK)
   (try clear HB)
   generalize ((((((((w17.setCell ⟨go7,0,none⟩ (.int .i64 t36011)).setCell ⟨go7,1,none⟩ (.string t36012)).setCell ⟨go7,2,none⟩ (.string t36013)).setCell ⟨go7,3,none⟩ (.int .i64 t36014)).setCell ⟨go7,4,none⟩ (.string t36015)).setCell ⟨go7,5,none⟩ ((Value.slice sA0_ t36016.length sc0_))).setCell ⟨go7,6,none⟩ ((Value.slice sA1_ t36019.length sc1_))).setCell ⟨go7,7,none⟩ (.int .i64 t36022))=w19 at n0_ n1_ n2_ n3_ n4_ n5_ ⊢
   have HO36004:=n0_
   have BK36001:=n1_
   have BK36007:=n2_
   have HI0:=n3_
   have HK:=n4_
   have HB:=n5_
   clear n0_ n1_ n2_ n3_ n4_ n5_
   have hcz20_0:w19.cell? ⟨gb36007,0,none⟩=some (.slice (some ⟨go7,0,none⟩) t36002.length co11):=(blk_cell BK36007.out 0).trans rfl
   have hfz20_0:=blk_frozen BK36007.out 0
   have hnb21:=NB36001_0.out
   have hnc21:=NB0_36001.out
   have hcz22_0:w19.cell? ⟨gb36001,0,none⟩=some (.slice none 0 0):=(blk_cell BK36001.out 0).trans rfl
   have hfz22_0:=blk_frozen BK36001.out 0
   try go_wp2
   refine bodyPost_ret (results_cell_row rfl _ _ gb36001 37 #[.slice (some ⟨go7,0,none⟩) t36002.length co11] (0,0) _ rfl (zpu BK36001.out) Try.underlying37 rfl (by kernel_rfl)) rfl ?_
   exact ⟨_,za9,by (with_reducible repeat (first|apply Kd.N_alloc|apply Kd.N_drewN|apply Kd.N_drew));exact Kd.N_mono (zfN (Kd.N_mono HO36004.out (fun k_ hk=>(⟨hk,hk.2.1⟩:_∧k_ ≠ gb36001)))) (fun _ hk=>hk.1.1),za31,za37,za23⟩
  ·rw [if_neg c6] at H
   exact absurd H (by simp)
 ·rw [if_neg c4] at H
  have c4b0:=zbn c4
  have c4b1:=zqt c4
  by_cases c23:t36008=1
  ·rw [if_pos c23] at H
   have c23b0:=zbt c23
   have c23b1:=zqn c23
   clear c23
   have H':=zk H
   clear H
   go_enter Try.func36,Try.ntmps36
   go_wp2_with (first|((with_reducible refine gate_dst (N:=2) rfl ?_);refine zE (N:=2) (cs:=#[.slice none 0 0]) (t:=37) ?_;intro gb36001 hg w24 hbox hb;replace HB:=zk (below_step za12 hb);have BK36001:=zk (hbox);have GW36001:=zk ((by rw [hg];exact (keep_size (w:=w) (g:=g) (row:=none) za6):w.heap.size≤gb36001));have GE36001:=zk ((Nat.le_trans HW0.out (by rw [hg];exact (keep_size (w:=w) (g:=g) (row:=none) za6):w.heap.size≤gb36001):w0.heap.size≤gb36001));have NB0_36001:=zk ((by rw [hg];exact Nat.ne_of_lt (IsS69.lt (show IsS69 w0 _ g s0_0 s0_1 s0_2 from za5)):g ≠ gb36001));have NB36001_0:=zk ((by rw [hg];exact Nat.ne_of_gt (IsS69.lt (show IsS69 w0 _ g s0_0 s0_1 s0_2 from za5)):gb36001 ≠ g));replace HI0:=zk (IsS69.below za5 hb);replace HK:=zk (KeepBut.trans za6 (KeepBut.of_below hb g none) (.inl rfl));clear hb hbox hg)|((with_reducible refine gate_callee (f:=51) rfl ?_);refine goesL_ (some 5) rfl rfl Try.func51 (by kernel_rfl) rfl #[.pointer (some ⟨g,0,none⟩),.int .i64 3] rfl za4 ?_;(with_reducible refine (spec_l10Draw.calls k g s0_0 s0_1 s0_2 3 t36002 t36005 t36006 w0 _ za34 za62 A2.out).mono ?_);rintro e w25 ⟨v36003,rfl,ho0,hi,hb,hk⟩;refine ⟨_,rfl,?_⟩;have HO36004:=zk (Kd.N_lower (Kd.N_mono (ok':=fun k_=>(w.heap.size≤k_)∧k_ ≠ gb36001∧k_ ≠ g) ho0 (fun k_ hk_=>⟨(Nat.le_trans (keep_size (w:=w) (g:=g) (row:=none) za32) hk_),(Kd.freshB (g:=gb36001) (o:=.cells #[.slice none 0 0] 37 (0,0)) (za1 BK36001.out) k_ hk_),(IsS69.fresh za34 k_ hk_)⟩)) (keep_size (w:=w) (g:=g) (row:=none) za32));replace HB:=zk (hb);replace BK36001:=zk (KeepBut.blk hk (g':=gb36001) (o:=.cells #[.slice none 0 0] 37 (0,0)) (za1 BK36001.out) NB36001_0.out (by simp));replace HK:=zk (KeepBut.trans za32 hk (.inl rfl));replace HI0:=zk (hi);(try clear hb);(try clear hb2);(try clear hk);(try clear hi);(try clear ho0))|((with_reducible refine gate_dst (N:=3) rfl ?_);refine zE (N:=3) (cs:=#[.slice none 0 0]) (t:=37) ?_;intro gb36007 hg w26 hbox hb;replace HO36004:=zk (Kd.N_below (Kd.N_elderB (za2 HO36004.out) gb36007 (Nat.le_of_eq hg.symm)) hb);replace HB:=zk (below_step za62 hb);have BK36007:=zk (hbox);have GW36007:=zk ((by rw [hg];exact (keep_size (w:=w) (g:=g) (row:=none) za32):w.heap.size≤gb36007));have GE36007:=zk ((Nat.le_trans HW0.out (by rw [hg];exact (keep_size (w:=w) (g:=g) (row:=none) za32):w.heap.size≤gb36007):w0.heap.size≤gb36007));have NB36001_36007:=zk ((by rw [hg];exact Nat.ne_of_lt (zl BK36001.out):gb36001 ≠ gb36007));have NB36007_36001:=zk ((by rw [hg];exact Nat.ne_of_gt (zl BK36001.out):gb36007 ≠ gb36001));have NB0_36007:=zk ((by rw [hg];exact Nat.ne_of_lt (IsS69.lt (show IsS69 w0 _ g s0_0 t36005 t36006 from za34)):g ≠ gb36007));have NB36007_0:=zk ((by rw [hg];exact Nat.ne_of_gt (IsS69.lt (show IsS69 w0 _ g s0_0 t36005 t36006 from za34)):gb36007 ≠ g));replace HI0:=zk (IsS69.below za34 hb);replace BK36001:=zk (zb BK36001.out hb);replace HK:=zk (KeepBut.trans za32 (KeepBut.of_below hb g none) (.inl rfl));clear hb hbox hg;obtain ⟨Ao27,co27,eo27⟩:=Kd.N_slice HO36004.out;subst eo27;have hnb28:=NB36007_36001.out;have hnc28:=NB36001_36007.out;have hnb29:=NB36007_0.out;have hnc29:=NB0_36007.out;have hcz30_0:w26.cell? ⟨gb36007,0,none⟩=some (.slice none 0 0):=(blk_cell BK36007.out 0).trans rfl;have hfz30_0:=blk_frozen BK36007.out 0)|((with_reducible refine gate_callee (f:=42) rfl ?_);refine goesL_ (some 7) rfl rfl Try.func42 (by kernel_rfl) rfl #[.pointer (some ⟨g,0,none⟩),.int .i64 12] rfl za4 ?_;(with_reducible refine (spec_l1Below.calls g s0_0 t36005 t36006 12 t36008 t36009 t36010 w0 _ za31 za37 A3.out).mono ?_);rintro e w31 ⟨rfl,hi,hb,hk⟩;refine ⟨_,rfl,?_⟩;replace BK36001:=zk (KeepBut.blk hk (g':=gb36001) (o:=.cells #[.slice none 0 0] 37 (0,0)) za72 NB36001_0.out (by simp));replace HO36004:=zk (Kd.N_mono (Kd.N_keep (Kd.N_mono (ok:=fun k_=>((((w.heap.size≤k_))∧(k_ ≠ gb36001∧k_ ≠ g))∧k_ ≠ gb36007)) za82 (fun k_ hk_=>(⟨hk_,hk_.1.2.2⟩:_∧k_ ≠ g))) hk (fun _ h=>h.2)) (fun _ h=>h.1));replace BK36007:=zk (KeepBut.blk hk (g':=gb36007) (o:=.cells #[.slice Ao27 t36002.length co27] 37 (0,0)) (zpu BK36007.out) NB36007_0.out (by simp));replace HK:=zk (KeepBut.trans za23 hk (.inl rfl));replace HB:=zk (hb);replace HI0:=zk (hi);(try clear hb);(try clear hb2);(try clear hk);(try clear hi)))
   try simp only [Act.put,zt,zv,zu]
   go_loopg [] k (fun kq w'=>∃ (x1001_1:Int) (x1002_1:Int) (x36008000_1:List (S61)) (u36008000:Value),Aside0 (spec_l10Bent.l0 kq s0_0 x1001_1 x1002_1 x36008000_1=some (r1,r2,r3))∧Aside0 (kq≤k)∧Aside0 (Kd.N k61 61 w' w.heap.size (fun k_=>(w.heap.size≤k_)∧k_ ≠ gb36001∧k_ ≠ gb36007∧k_ ≠ g) u36008000 x36008000_1)∧Aside0 (w'.heap[gb36001]? = some (.cells #[(.slice none 0 0)] 37 (0,0)))∧Aside0 (w'.heap[gb36007]? = some (.cells #[u36008000] 37 (0,0)))∧Aside0 (IsS69 w0 w' g s0_0 x1001_1 x1002_1)∧Aside0 (KeepBut w w' g none)∧Aside0 (Below w0.heap.size w0 w'))
   case atStart=>exact ⟨(t36009),(t36010),(t36002),(.slice Ao27 t36002.length co27),H',⟨Nat.le_refl _⟩,⟨by (with_reducible repeat (first|apply Kd.N_alloc|apply Kd.N_drewN|apply Kd.N_drew));exact Kd.N_mono HO36004.out (fun _ hk=>⟨hk.1.1,⟨hk.1.2.1,⟨hk.2,hk.1.2.2⟩⟩⟩)⟩,⟨za1 BK36001.out⟩,⟨za1 BK36007.out⟩,⟨za31⟩,⟨za23⟩,⟨za37⟩⟩
   case round =>
    clear H'
    try clear c1
    try clear c2
    try clear p2
    try clear c3
    try clear c4
    try clear c4b0
    try clear c4b1
    try clear c5
    try clear c6
    try clear c6b0
    try clear c6b1
    try clear c7
    try clear p7
    try clear q7
    try clear hx7
    try clear qi7
    try clear hf7
    try clear c12
    try clear c13
    try clear c18
    try clear c21
    try clear c23
    try clear c23b0
    try clear c23b1
    try clear c28
    try clear c29
    try clear hcz14_0
    try clear hcz20_0
    try clear hcz22_0
    try clear hcz30_0
    try clear hfz14_0
    try clear hfz20_0
    try clear hfz22_0
    try clear hfz30_0
    try clear hx7_0
    try clear hx7_1
    try clear hx7_2
    try clear hx7_3
    try clear hx7_4
    try clear hx7_5
    try clear hx7_6
    try clear hx7_7
    try clear p7
    try clear q7
    obtain ⟨x1001_1,x1002_1,x36008000_1,u36008000,HA,HK1,HO_36008000,BK36001,BK36007,HI0,HK,HB⟩:=hrel
    cases gk with
    | zero=>exact absurd HA.out (by simp [spec_l10Bent.l0])
    | succ k1 =>
     have H:=HA.out
     clear HA
     simp only [spec_l10Bent.l0] at H
     by_cases c32:(x36008000_1.length:Int) < 7
     ·rw [if_pos c32] at H
      have c32b0:=zdl c32
      have c32b1:decide (x36008000_1.length < 7)=true:=decide_eq_true (by omega)
      clear c32
      replace H:=zo H
      obtain ⟨⟨t36026,t36027,t36028,t36029,t36030,t36031,t36034,t36037,t36038,t36039⟩,A330,H⟩:=H
      try dsimp only at H
      have A33:=zk A330
      clear A330
      by_cases c34:x36008000_1.length < 1172812402961
      ·rw [if_pos c34] at H
       have LMc34:=zk c34
       clear c34
       obtain ⟨y36040,hy36040⟩:∃ y_:List (S61),y_=(x36008000_1 ++ [(⟨t36026,t36027,t36028,(⟨t36029,t36030,t36031⟩:S58),t36034,t36037⟩:S61)]):=⟨_,rfl⟩
       replace H:(spec_l10Bent.l0 k1 s0_0 t36038 t36039 y36040)=some (r1,r2,r3):=by first|(rw [hy36040];with_reducible exact H)|(have H2_:=(Option.bind_some _ _).symm.trans H;rw [hy36040];with_reducible exact H2_)|(have H2_:=(Option.bind_some _ _).symm.trans H;with_reducible exact H2_)|with_reducible exact H|(rw [hy36040];exact H)|exact H
       have Ny36040:=zk hy36040
       clear hy36040
       have H':=zk H
       clear H
       have hnb35:=NB36007_36001.out
       have hnc35:=NB36001_36007.out
       have hnb36:=NB36007_0.out
       have hnc36:=NB0_36007.out
       have hcz37_0:wr.cell? ⟨gb36007,0,none⟩=some (u36008000):=(blk_cell BK36007.out 0).trans rfl
       have hfz37_0:=blk_frozen BK36007.out 0
       obtain ⟨Ao38,co38,eo38⟩:=Kd.N_slice HO_36008000.out
       subst eo38
       try go_wp2
       replace HO_36008000:=zk (Kd.N_drew HO_36008000.out)
       replace BK36001:=zk (blk_drew BK36001.out)
       replace BK36007:=zk (blk_drew BK36007.out)
       replace HI0:=zk (IsS69.drew HI0.out)
       replace HK:=zk (keep_drew HK.out)
       replace HB:=zk (below_drew1 HB.out)
       refine start_ (n:=8) (S:=fun w'=>w'.cell? ⟨gb36007,0,none⟩=some (.slice Ao38 x36008000_1.length co38)) (ds:=[7]) #[false,false,false,false,false,false,false,false] (by kernel_rfl) rfl rfl ((blk_cell BK36007.out 0).trans rfl) (fun hHeld=>?_);refine with_tabW spec_l10Bent.tab7 spec_l10Bent.bits7 (fun HT_ HW_=>?_)
       generalize wr.drew=w39 at HO_36008000 BK36001 BK36007 HI0 HK HB hHeld ⊢
       refine zy 0 (some 21) HT_.out ?_
       refine zy 2 (some 23) HT_.out ?_
       refine ztk 1 (some 22) HT_.out HW_.out hHeld ?_
       refine zon 3 (some 24) HT_.out (fun K hK=>?_)
       refine goes_ Try.func53 (by kernel_rfl) rfl #[.pointer (some ⟨g,0,none⟩),.string (⟨#[88]⟩:ByteArray)] (by rfl) rfl rfl za4 ?_
       with_reducible refine (spec_l9Draw.calls k1 g s0_0 x1001_1 x1002_1 (⟨#[88]⟩:ByteArray) t36026 t36027 t36028 t36029 t36030 t36031 t36034 t36037 t36038 t36039 w0 _ za31 za37 A33.out).mono ?_
       rintro e w40 ⟨v36032,v36035,rfl,ho0,ho1,hi,hb,hk⟩
       refine ⟨_,rfl,?_⟩
       have HO36033:=zk (Kd.N_lower (Kd.N_mono (ok':=fun k_=>(w.heap.size≤k_)∧some k_ ≠ (v36035:Value).ownBlock∧some k_ ≠ (.slice Ao38 x36008000_1.length co38:Value).ownBlock∧k_ ≠ gb36001∧k_ ≠ gb36007∧k_ ≠ g) ho0 (fun k_ hk_=>⟨(Nat.le_trans (keep_size (w:=w) (g:=g) (row:=none) za23) hk_.1),hk_.2,(Kd.fresh' (Kd.N_lt (za2 HO_36008000.out)) k_ hk_.1),(Kd.freshB (g:=gb36001) (o:=.cells #[.slice none 0 0] 37 (0,0)) (za1 BK36001.out) k_ hk_.1),(Kd.freshB (g:=gb36007) (o:=.cells #[.slice Ao38 x36008000_1.length co38] 37 (0,0)) (za1 BK36007.out) k_ hk_.1),(IsS69.fresh za31 k_ hk_.1)⟩)) (keep_size (w:=w) (g:=g) (row:=none) za23))
       have HO36036:=zk (Kd.R_lower (Kd.R_newM (M:=fun k_=>(w.heap.size≤k_)) (Kd.R_mono (ok':=fun k_=>True) ho1 (fun _ hk_=>trivial)) (keep_size (w:=w) (g:=g) (row:=none) za23) (fun k_ h_=>h_)) (keep_size (w:=w) (g:=g) (row:=none) za23))
       replace HB:=zk (hb)
       replace HO_36008000:=zk (Kd.N_mono (Kd.N_told (Kd.N_told (Kd.N_oldK (Kd.N_mono (ok:=fun k_=>(((w.heap.size≤k_))∧(k_ ≠ gb36001∧(k_ ≠ gb36007∧k_ ≠ g)))) (za2 HO_36008000.out) (fun k_ hk_=>(⟨hk_,hk_.2.2.2⟩:_∧k_ ≠ g))) hk) (Kd.N_base ho0)) (Kd.R_base ho1)) (fun _ h_=>h_.1))
       replace BK36001:=zk (KeepBut.blk hk (g':=gb36001) (o:=.cells #[.slice none 0 0] 37 (0,0)) (za1 BK36001.out) NB36001_0.out (by simp))
       replace BK36007:=zk (KeepBut.blk hk (g':=gb36007) (o:=.cells #[.slice Ao38 x36008000_1.length co38] 37 (0,0)) (za1 BK36007.out) NB36007_0.out (by simp))
       replace HK:=zk (KeepBut.trans za23 hk (.inl rfl))
       replace HI0:=zk (hi)
       (try clear hb)
       (try clear hb2)
       (try clear hk)
       (try clear hi)
       (try clear ho0)
       (try clear ho1)
       obtain ⟨Ao42,co42,eo42⟩:=Kd.N_slice HO36033.out
       (first|subst eo42|(injection eo42 with f1_ f2_ f3_;have f4_:=f1_.symm;have f5_:=f3_.symm;clear f1_ f2_ f3_;subst f4_;subst f5_))
       obtain ⟨Ao43,co43,eo43⟩:=Kd.R_slice HO36036.out
       (first|subst eo43|(injection eo43 with f1_ f2_ f3_;have f4_:=f1_.symm;have f5_:=f3_.symm;clear f1_ f2_ f3_;subst f4_;subst f5_))
       refine hK.out _ _ ((blk_cell BK36007.out 0).trans rfl) (fun hHeld=>?_)
       clear hK K
       refine zno (some 24) ?_
       refine zon 4 (some 25) HT_.out (fun K hK=>?_)
       refine value_ (w1:=?_) (v:=?_) (by rfl) rfl ?_ ?_
       rotate_left 2
       ·go_simp
        constructor
        ·rfl
        ·rfl
       refine hK.out _ _ ((blk_cell (blk_alloc BK36007.out _) 0).trans rfl) (fun hHeld=>?_)
       clear hK K
       refine zno (some 25) ?_
       refine zon 5 (some 26) HT_.out (fun K hK=>?_)
       refine Kd.N_append_step k61 w.heap.size (by rfl) (.tmp 22) (.tmp 25) 35 61 (.agg #[(.int .i64 0),(.string ⟨#[]⟩),(.string ⟨#[]⟩),(.int .i64 0),(.string ⟨#[]⟩),(.slice none 0 0),(.slice none 0 0),(.int .i64 0)]) 120 rfl Try.underlying35 info61 rfl (by decide) (by omega) (.slice Ao38 x36008000_1.length co38) x36008000_1 (⟨t36026,t36027,t36028,(⟨t36029,t36030,t36031⟩:S58),t36034,t36037⟩:S61) [.int .i64 t36026,.string t36027,.string t36028,.int .i64 t36029,.string t36030,.slice Ao42 t36031.length co42,.slice Ao43 t36034.length co43,.int .i64 t36037] (fun k_=>(w.heap.size≤k_)∧k_ ≠ gb36001∧k_ ≠ gb36007∧k_ ≠ g) (fun k_=>((fun k_=>(w.heap.size≤k_)∧k_ ≠ gb36001∧k_ ≠ gb36007∧k_ ≠ g)) k_∧some k_ ≠ (.slice Ao38 x36008000_1.length co38:Value).ownBlock) rfl rfl ?aP (fun _ hk=>hk) ?aF ?aO (Below.refl _ _) ?aS ?aL ?_
       (case aP=>exact (k61_mkF _ _ (⟨t36026,t36027,t36028,(⟨t36029,t36030,t36031⟩:S58),t36034,t36037⟩:S61) (Kd.N_reads' (Kd.N_mono (ok':=(fun k_=>((fun k_=>(w.heap.size≤k_)∧k_ ≠ gb36001∧k_ ≠ gb36007∧k_ ≠ g)) k_∧some k_ ≠ (.slice Ao38 x36008000_1.length co38:Value).ownBlock)) (HO36033.out) (fun k_ hk=>⟨⟨hk.1,⟨hk.2.2.2.1,⟨hk.2.2.2.2.1,hk.2.2.2.2.2⟩⟩⟩,hk.2.2.1⟩))).2.1 (Kd.N_F (Kd.N_mono (ok':=(fun k_=>((fun k_=>(w.heap.size≤k_)∧k_ ≠ gb36001∧k_ ≠ gb36007∧k_ ≠ g)) k_∧some k_ ≠ (.slice Ao38 x36008000_1.length co38:Value).ownBlock)) (HO36033.out) (fun k_ hk=>⟨⟨hk.1,⟨hk.2.2.2.1,⟨hk.2.2.2.2.1,hk.2.2.2.2.2⟩⟩⟩,hk.2.2.1⟩))) (Kd.R_reads' (Kd.R_mono (ok':=(fun k_=>((fun k_=>(w.heap.size≤k_)∧k_ ≠ gb36001∧k_ ≠ gb36007∧k_ ≠ g)) k_∧some k_ ≠ (.slice Ao38 x36008000_1.length co38:Value).ownBlock)) (IsS69.apart HI0.out (Kd.R_types (Kd.R_types (Kd.R_apart' (HO36036.out) (Kd.N_typed HO_36008000.out) (by decide)) BK36001.out (by decide)) BK36007.out (by decide)) (by decide)) (fun k_ hk=>⟨⟨hk.1.1.1.1.1,⟨hk.1.1.2,⟨hk.1.2,hk.2⟩⟩⟩,hk.1.1.1.2⟩))).2.1 (Kd.R_F (Kd.R_mono (ok':=(fun k_=>((fun k_=>(w.heap.size≤k_)∧k_ ≠ gb36001∧k_ ≠ gb36007∧k_ ≠ g)) k_∧some k_ ≠ (.slice Ao38 x36008000_1.length co38:Value).ownBlock)) (IsS69.apart HI0.out (Kd.R_types (Kd.R_types (Kd.R_apart' (HO36036.out) (Kd.N_typed HO_36008000.out) (by decide)) BK36001.out (by decide)) BK36007.out (by decide)) (by decide)) (fun k_ hk=>⟨⟨hk.1.1.1.1.1,⟨hk.1.1.2,⟨hk.1.2,hk.2⟩⟩⟩,hk.1.1.1.2⟩)))))
       (case aF=>exact (fun k_ hk=>⟨(Nat.le_trans (keep_size (w:=w) (g:=g) (row:=none) za23) hk),Kd.freshB (g:=gb36001) (o:=.cells #[.slice none 0 0] 37 (0,0)) (za1 BK36001.out) k_ hk,Kd.freshB (g:=gb36007) (o:=.cells #[.slice Ao38 x36008000_1.length co38] 37 (0,0)) (za1 BK36007.out) k_ hk,IsS69.fresh za31 k_ hk⟩))
       (case aO=>exact (by (with_reducible repeat (first|apply Kd.N_alloc|apply Kd.N_drewN|apply Kd.N_drew));exact Kd.N_mono HO_36008000.out (fun _ hk=>⟨hk.1.1.1,⟨hk.1.1.2.1,⟨hk.1.1.2.2.1,hk.1.1.2.2.2⟩⟩⟩)))
       (case aS=>exact (keep_size (w:=w) (g:=g) (row:=none) za23))
       (case aL=>have:=LMc34.out;omega)
       intro v36041 w41 ho hb hg hat
       rw [← Ny36040.out] at ho
       replace BK36001:=zk (blk_grown (g:=gb36001) (o:=.cells #[.slice none 0 0] 37 (0,0)) (za1 BK36001.out) hg (Kd.N_ne HO_36008000.out BK36001.out (by decide)))
       replace BK36007:=zk (blk_grown (g:=gb36007) (o:=.cells #[.slice Ao38 x36008000_1.length co38] 37 (0,0)) (za1 BK36007.out) hg (Kd.N_ne HO_36008000.out BK36007.out (by decide)))
       replace HB:=zk (below_weaken za37 HL.out hb)
       replace HK:=zk (KeepBut.trans za23 (KeepBut.of_grown hg g) (Kd.N_base2 HO_36008000.out))
       have HO36042:=zk (ho)
       replace HI0:=zk (IsS69.grown za31 hg (IsS69.own_neN HI0.out HO_36008000.out (by decide)))
       clear HO_36008000
       clear HO36033
       clear HO36036
       clear ho hb hg hat
       obtain ⟨Ao44,co44,eo44⟩:=Kd.N_slice HO36042.out
       (first|subst eo44|(injection eo44 with f1_ f2_ f3_;have f4_:=f1_.symm;have f5_:=f3_.symm;clear f1_ f2_ f3_;subst f4_;subst f5_))
       refine hK.out _ _ ((blk_cell BK36007.out 0).trans rfl) (fun hHeld=>?_)
       clear hK K
       refine zno (some 26) ?_
       refine zy 6 (some 27) HT_.out ?_
       refine last_ (i:=7) (N:=none) #[true,true,true,true,true,true,true,true] rfl rfl (one_of HT_.out (by kernel_rfl)) (by decide) (fun K hK=>?_)
       have hs45:w41.cell? ⟨gb36007,0,none⟩=some (.slice Ao38 x36008000_1.length co38):=(blk_cell BK36007.out 0).trans rfl
       have hfs45:=blk_frozen BK36007.out 0
       have hns45_0:=NB36001_36007.out
       have hms45_0:=NB36007_36001.out
       refine skip_ (w1:=?_) (by rfl) rfl ?_ ?_
       rotate_left
       ·go_simp
        rfl
       refine hK.out _ _ ?_
       clear hK K
       refine done_ (done_of HT_.out (by kernel_rfl)) ?_
       try go_wp2
       go_roundg k1
       case measure=>have:=HK1.out;omega
       case rel=>exact ⟨(t36038),(t36039),(y36040),(.slice Ao44 y36040.length co44),H',⟨za60⟩,⟨by (with_reducible repeat (first|apply Kd.N_alloc|apply Kd.N_drewN|apply Kd.N_drew));exact Kd.N_mono (zfN (Kd.N_mono HO36042.out (fun k_ hk=>(⟨hk,hk.2.2.1⟩:_∧k_ ≠ gb36007)))) (fun _ hk=>⟨hk.1.1,⟨hk.1.2.1,⟨hk.1.2.2.1,hk.1.2.2.2⟩⟩⟩)⟩,⟨za72⟩,⟨zpu BK36007.out⟩,⟨za31⟩,⟨za23⟩,⟨za37⟩⟩
      ·rw [if_neg c34] at H
       exact absurd H (by simp)
     ·rw [if_neg c32] at H
      have c32b0:=zdnl c32
      have c32b1:decide (x36008000_1.length < 7)=false:=decide_eq_false (by omega)
      clear c32
      simp only [Option.some.injEq,Prod.mk.injEq] at H
      obtain ⟨rfl,rfl,rfl⟩:=H
      have hnb46:=NB36007_36001.out
      have hnc46:=NB36001_36007.out
      have hnb47:=NB36007_0.out
      have hnc47:=NB0_36007.out
      have hcz48_0:wr.cell? ⟨gb36007,0,none⟩=some (u36008000):=(blk_cell BK36007.out 0).trans rfl
      have hfz48_0:=blk_frozen BK36007.out 0
      obtain ⟨Ao49,co49,eo49⟩:=Kd.N_slice HO_36008000.out
      subst eo49
      have hnb50:=NB36001_0.out
      have hnc50:=NB0_36001.out
      have hcz51_0:wr.cell? ⟨gb36001,0,none⟩=some (.slice none 0 0):=(blk_cell BK36001.out 0).trans rfl
      have hfz51_0:=blk_frozen BK36001.out 0
      go_wp2
      refine bodyPost_ret (results_cell_row rfl _ _ gb36001 37 #[.slice Ao49 x36008000_1.length co49] (0,0) _ rfl (zpu BK36001.out) Try.underlying37 rfl (by kernel_rfl)) rfl ?_
      exact ⟨_,za9,by (with_reducible repeat (first|apply Kd.N_alloc|apply Kd.N_drewN|apply Kd.N_drew));exact Kd.N_mono (zfN (Kd.N_mono HO_36008000.out (fun k_ hk=>(⟨hk,hk.2.1⟩:_∧k_ ≠ gb36001)))) (fun _ hk=>hk.1.1),za31,za37,za23⟩
  ·rw [if_neg c23] at H
   have c23b0:=zbn c23
   have c23b1:=zqt c23
   simp only [Option.some.injEq,Prod.mk.injEq] at H
   obtain ⟨rfl,rfl,rfl⟩:=H
   go_enter Try.func36,Try.ntmps36
   go_wp2_with (first|((with_reducible refine gate_dst (N:=2) rfl ?_);refine zE (N:=2) (cs:=#[.slice none 0 0]) (t:=37) ?_;intro gb36001 hg w52 hbox hb;replace HB:=zk (below_step za12 hb);have BK36001:=zk (hbox);have GW36001:=zk ((by rw [hg];exact (keep_size (w:=w) (g:=g) (row:=none) za6):w.heap.size≤gb36001));have GE36001:=zk ((Nat.le_trans HW0.out (by rw [hg];exact (keep_size (w:=w) (g:=g) (row:=none) za6):w.heap.size≤gb36001):w0.heap.size≤gb36001));have NB0_36001:=zk ((by rw [hg];exact Nat.ne_of_lt (IsS69.lt (show IsS69 w0 _ g s0_0 s0_1 s0_2 from za5)):g ≠ gb36001));have NB36001_0:=zk ((by rw [hg];exact Nat.ne_of_gt (IsS69.lt (show IsS69 w0 _ g s0_0 s0_1 s0_2 from za5)):gb36001 ≠ g));replace HI0:=zk (IsS69.below za5 hb);replace HK:=zk (KeepBut.trans za6 (KeepBut.of_below hb g none) (.inl rfl));clear hb hbox hg)|((with_reducible refine gate_callee (f:=51) rfl ?_);refine goesL_ (some 5) rfl rfl Try.func51 (by kernel_rfl) rfl #[.pointer (some ⟨g,0,none⟩),.int .i64 3] rfl za4 ?_;(with_reducible refine (spec_l10Draw.calls k g s0_0 s0_1 s0_2 3 t36002 t36005 t36006 w0 _ za34 za62 A2.out).mono ?_);rintro e w53 ⟨v36003,rfl,ho0,hi,hb,hk⟩;refine ⟨_,rfl,?_⟩;have HO36004:=zk (Kd.N_lower (Kd.N_mono (ok':=fun k_=>(w.heap.size≤k_)∧k_ ≠ gb36001∧k_ ≠ g) ho0 (fun k_ hk_=>⟨(Nat.le_trans (keep_size (w:=w) (g:=g) (row:=none) za32) hk_),(Kd.freshB (g:=gb36001) (o:=.cells #[.slice none 0 0] 37 (0,0)) (za1 BK36001.out) k_ hk_),(IsS69.fresh za34 k_ hk_)⟩)) (keep_size (w:=w) (g:=g) (row:=none) za32));replace HB:=zk (hb);replace BK36001:=zk (KeepBut.blk hk (g':=gb36001) (o:=.cells #[.slice none 0 0] 37 (0,0)) (za1 BK36001.out) NB36001_0.out (by simp));replace HK:=zk (KeepBut.trans za32 hk (.inl rfl));replace HI0:=zk (hi);(try clear hb);(try clear hb2);(try clear hk);(try clear hi);(try clear ho0))|((with_reducible refine gate_dst (N:=3) rfl ?_);refine zE (N:=3) (cs:=#[.slice none 0 0]) (t:=37) ?_;intro gb36007 hg w54 hbox hb;replace HO36004:=zk (Kd.N_below (Kd.N_elderB (za2 HO36004.out) gb36007 (Nat.le_of_eq hg.symm)) hb);replace HB:=zk (below_step za62 hb);have BK36007:=zk (hbox);have GW36007:=zk ((by rw [hg];exact (keep_size (w:=w) (g:=g) (row:=none) za32):w.heap.size≤gb36007));have GE36007:=zk ((Nat.le_trans HW0.out (by rw [hg];exact (keep_size (w:=w) (g:=g) (row:=none) za32):w.heap.size≤gb36007):w0.heap.size≤gb36007));have NB36001_36007:=zk ((by rw [hg];exact Nat.ne_of_lt (zl BK36001.out):gb36001 ≠ gb36007));have NB36007_36001:=zk ((by rw [hg];exact Nat.ne_of_gt (zl BK36001.out):gb36007 ≠ gb36001));have NB0_36007:=zk ((by rw [hg];exact Nat.ne_of_lt (IsS69.lt (show IsS69 w0 _ g s0_0 t36005 t36006 from za34)):g ≠ gb36007));have NB36007_0:=zk ((by rw [hg];exact Nat.ne_of_gt (IsS69.lt (show IsS69 w0 _ g s0_0 t36005 t36006 from za34)):gb36007 ≠ g));replace HI0:=zk (IsS69.below za34 hb);replace BK36001:=zk (zb BK36001.out hb);replace HK:=zk (KeepBut.trans za32 (KeepBut.of_below hb g none) (.inl rfl));clear hb hbox hg;obtain ⟨Ao55,co55,eo55⟩:=Kd.N_slice HO36004.out;subst eo55;have hnb56:=NB36007_36001.out;have hnc56:=NB36001_36007.out;have hnb57:=NB36007_0.out;have hnc57:=NB0_36007.out;have hcz58_0:w54.cell? ⟨gb36007,0,none⟩=some (.slice none 0 0):=(blk_cell BK36007.out 0).trans rfl;have hfz58_0:=blk_frozen BK36007.out 0)|((with_reducible refine gate_callee (f:=42) rfl ?_);refine goesL_ (some 7) rfl rfl Try.func42 (by kernel_rfl) rfl #[.pointer (some ⟨g,0,none⟩),.int .i64 12] rfl za4 ?_;(with_reducible refine (spec_l1Below.calls g s0_0 t36005 t36006 12 t36008 t36009 t36010 w0 _ za31 za37 A3.out).mono ?_);rintro e w59 ⟨rfl,hi,hb,hk⟩;refine ⟨_,rfl,?_⟩;replace BK36001:=zk (KeepBut.blk hk (g':=gb36001) (o:=.cells #[.slice none 0 0] 37 (0,0)) za72 NB36001_0.out (by simp));replace HO36004:=zk (Kd.N_mono (Kd.N_keep (Kd.N_mono (ok:=fun k_=>((((w.heap.size≤k_))∧(k_ ≠ gb36001∧k_ ≠ g))∧k_ ≠ gb36007)) za82 (fun k_ hk_=>(⟨hk_,hk_.1.2.2⟩:_∧k_ ≠ g))) hk (fun _ h=>h.2)) (fun _ h=>h.1));replace BK36007:=zk (KeepBut.blk hk (g':=gb36007) (o:=.cells #[.slice Ao55 t36002.length co55] 37 (0,0)) (zpu BK36007.out) NB36007_0.out (by simp));replace HK:=zk (KeepBut.trans za23 hk (.inl rfl));replace HB:=zk (hb);replace HI0:=zk (hi);(try clear hb);(try clear hb2);(try clear hk);(try clear hi);have hcz60_0:w59.cell? ⟨gb36007,0,none⟩=some (.slice Ao55 t36002.length co55):=(blk_cell BK36007.out 0).trans rfl;have hfz60_0:=blk_frozen BK36007.out 0;have hnb61:=NB36001_0.out;have hnc61:=NB0_36001.out;have hcz62_0:w59.cell? ⟨gb36001,0,none⟩=some (.slice none 0 0):=(blk_cell BK36001.out 0).trans rfl;have hfz62_0:=blk_frozen BK36001.out 0))
   refine bodyPost_ret (results_cell_row rfl _ _ gb36001 37 #[.slice Ao55 t36002.length co55] (0,0) _ rfl (zpu BK36001.out) Try.underlying37 rfl (by kernel_rfl)) rfl ?_
   exact ⟨_,za9,by (with_reducible repeat (first|apply Kd.N_alloc|apply Kd.N_drewN|apply Kd.N_drew));exact Kd.N_mono (zfN (Kd.N_mono HO36004.out (fun k_ hk=>(⟨hk,hk.1.2.1⟩:_∧k_ ≠ gb36001)))) (fun _ hk=>hk.1.1.1),za31,za37,za23⟩
end Go.Proofs.Ytgajchjnljekgaa.A
