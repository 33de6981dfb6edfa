/- FnMoves: what its proof needs, put together by this session's program wip/merge.py out of the texts that wip/xp.py printed and of this session's own. -/
import Derived.Test.YtgajchjnljekgaaQFnMoves2
set_option linter.unusedVariables false
set_option linter.unusedSimpArgs false
set_option linter.unusedSectionVars false
set_option maxHeartbeats 8000000
set_option maxRecDepth 100000
namespace Go.Proofs.Ytgajchjnljekgaa.A
open Go.RowKit Ytgajchjnljekgaa.Ext YtgajchjnljekgaaW.PrintWords YtgajchjnljekgaaW.PrintLast YtgajchjnljekgaaW.PrintMore
attribute [local go_sem] max2_int min2_int max_two min_two max_three min_three max_four min_four
mutual
def spec_l3Draw.j0:Nat→Int→Bool→List Int→Int→Int→Option (Int × ByteArray × (List (S58)) × Int × Int)
 | 0,_,_,_,_,_=>none
 | k+1,x1,x13,x1000,x1001,x1002=>if x13=true then ((spec_l1Below.f x1000 x1001 x1002 8).bind fun bt62005=>(if bt62005.1=0 then (some (2,(⟨#[]⟩:ByteArray),([]:List (S58)),bt62005.2.1,bt62005.2.2)) else (if bt62005.1=1 then (some (4,(⟨#[]⟩:ByteArray),([]:List (S58)),bt62005.2.1,bt62005.2.2)) else (if bt62005.1=2 then (some (1,(⟨#[]⟩:ByteArray),([]:List (S58)),bt62005.2.1,bt62005.2.2)) else ((spec_l1Pick.f x1000 bt62005.2.1 bt62005.2.2 (([(⟨#[97]⟩:ByteArray),(⟨#[97]⟩:ByteArray),(⟨#[98]⟩:ByteArray),(⟨#[98]⟩:ByteArray),(⟨#[99]⟩:ByteArray)]:List ByteArray))).bind fun bt62011=>(some (3,bt62011.1,([]:List (S58)),bt62011.2.1,bt62011.2.2))))))) else ((spec_l1Below.f x1000 x1001 x1002 10).bind fun bt62014=>(if bt62014.1=0 then (spec_l3Draw.j1 k x1 bt62014.1 (bt62014.1 == 0) x1000 bt62014.2.1 bt62014.2.2) else (if bt62014.1=1 then (spec_l3Draw.j1 k x1 bt62014.1 (bt62014.1 == 1) x1000 bt62014.2.1 bt62014.2.2) else (spec_l3Draw.j1 k x1 bt62014.1 (bt62014.1 == 2) x1000 bt62014.2.1 bt62014.2.2))))
def spec_l3Draw.j1:Nat→Int→Int→Bool→List Int→Int→Int→Option (Int × ByteArray × (List (S58)) × Int × Int)
 | 0,_,_,_,_,_,_=>none
 | k+1,x1,x30,x31,x1000,x1001,x1002=>if x31=true then ((spec_l3Draw.f k x1000 x1001 x1002 (wrap64 (x1 - 1))).bind fun bt62017=>(some (8,(⟨#[]⟩:ByteArray),(([(⟨bt62017.1,bt62017.2.1,bt62017.2.2.1⟩:S58)]:List (S58))),bt62017.2.2.2.1,bt62017.2.2.2.2))) else (if x30=3 then ((spec_l3Draw.f k x1000 x1001 x1002 (wrap64 (x1 - 1))).bind fun bt62027=>(some (9,(⟨#[]⟩:ByteArray),(([(⟨bt62027.1,bt62027.2.1,bt62027.2.2.1⟩:S58)]:List (S58))),bt62027.2.2.2.1,bt62027.2.2.2.2))) else (if x30=4 then ((spec_l3Draw.f k x1000 x1001 x1002 (wrap64 (x1 - 1))).bind fun bt62037=>((spec_l3Draw.f k x1000 bt62037.2.2.2.1 bt62037.2.2.2.2 (wrap64 (x1 - 1))).bind fun bt62045=>(some (7,(⟨#[]⟩:ByteArray),(([(⟨bt62037.1,bt62037.2.1,bt62037.2.2.1⟩:S58),(⟨bt62045.1,bt62045.2.1,bt62045.2.2.1⟩:S58)]:List (S58))),bt62045.2.2.2.1,bt62045.2.2.2.2)))) else (if x30=5 then (spec_l3Draw.j2 k x1 (x30 == 5) x1000 x1001 x1002) else (spec_l3Draw.j2 k x1 (x30 == 6) x1000 x1001 x1002))))
def spec_l3Draw.j2:Nat→Int→Bool→List Int→Int→Int→Option (Int × ByteArray × (List (S58)) × Int × Int)
 | 0,_,_,_,_,_=>none
 | k+1,x1,x62,x1000,x1001,x1002=>if x62=true then ((spec_l3Draw.f k x1000 x1001 x1002 (wrap64 (x1 - 1))).bind fun bt62055=>((spec_l3Draw.f k x1000 bt62055.2.2.2.1 bt62055.2.2.2.2 (wrap64 (x1 - 1))).bind fun bt62063=>(some (6,(⟨#[]⟩:ByteArray),(([(⟨bt62055.1,bt62055.2.1,bt62055.2.2.1⟩:S58),(⟨bt62063.1,bt62063.2.1,bt62063.2.2.1⟩:S58)]:List (S58))),bt62063.2.2.2.1,bt62063.2.2.2.2)))) else ((spec_l3Draw.f k x1000 x1001 x1002 (wrap64 (x1 - 1))).bind fun bt62073=>((spec_l3Draw.f k x1000 bt62073.2.2.2.1 bt62073.2.2.2.2 (wrap64 (x1 - 1))).bind fun bt62081=>(some (5,(⟨#[]⟩:ByteArray),(([(⟨bt62073.1,bt62073.2.1,bt62073.2.2.1⟩:S58),(⟨bt62081.1,bt62081.2.1,bt62081.2.2.1⟩:S58)]:List (S58))),bt62081.2.2.2.1,bt62081.2.2.2.2))))
def spec_l3Draw.f:Nat→List Int→Int→Int→Int→Option (Int × ByteArray × (List (S58)) × Int × Int)
 | 0,_,_,_,_=>none
 | k+1,s0_0,s0_1,s0_2,a1=>if a1 < 2 then (spec_l3Draw.j0 k a1 true s0_0 s0_1 s0_2) else ((spec_l1Once.f s0_0 s0_1 s0_2 5).bind fun bt62002=>(spec_l3Draw.j0 k a1 bt62002.1 s0_0 bt62002.2.1 bt62002.2.2))
end
def spec_l3Draw.T19:Bool × List (List Nat × List Nat):=(true,[([],[]),([],[]),([],[]),([2],[2]),([1,3],[1,3]),([0,4],[0,4]),([5],[5]),([6,4,0,1,2,3,4,5,6],[6])])
def spec_l3Draw.B19:List Nat:=[0,0,0,4,14,31,63,127]
theorem spec_l3Draw.tab19:rtab .any (opsOf Try.f62 19)=spec_l3Draw.T19:=by kernel_rfl
theorem spec_l3Draw.bits19:waitsOk spec_l3Draw.T19.2 spec_l3Draw.B19=true:=by kernel_rfl
def spec_l3Draw.T23:Bool × List (List Nat × List Nat):=(true,[([],[]),([],[]),([],[]),([2],[2]),([1,3],[1,3]),([0,4],[0,4]),([5],[5]),([6,4,0,1,2,3,4,5,6],[6])])
def spec_l3Draw.B23:List Nat:=[0,0,0,4,14,31,63,127]
theorem spec_l3Draw.tab23:rtab .any (opsOf Try.f62 23)=spec_l3Draw.T23:=by kernel_rfl
theorem spec_l3Draw.bits23:waitsOk spec_l3Draw.T23.2 spec_l3Draw.B23=true:=by kernel_rfl
def spec_l3Draw.T25:Bool × List (List Nat × List Nat):=(true,[([],[]),([],[]),([],[]),([2],[2]),([1,3],[1,3]),([0,4],[0,4]),([5],[5]),([6,4,0,1,2,3,4,5,6],[6])])
def spec_l3Draw.B25:List Nat:=[0,0,0,4,14,31,63,127]
theorem spec_l3Draw.tab25:rtab .any (opsOf Try.f62 25)=spec_l3Draw.T25:=by kernel_rfl
theorem spec_l3Draw.bits25:waitsOk spec_l3Draw.T25.2 spec_l3Draw.B25=true:=by kernel_rfl
theorem spec_l3Draw.calls (k:Nat):∀ (g:Nat) (s0_0:List Int) (s0_1:Int) (s0_2:Int) (a1:Int) (r1:Int) (r2:ByteArray) (r3:List (S58)) (r4:Int) (r5:Int) (w0 w:World) (hI:IsS69 w0 w g s0_0 s0_1 s0_2) (hB:Below w0.heap.size w0 w) (h:spec_l3Draw.f k s0_0 s0_1 s0_2 a1=some (r1,r2,r3,r4,r5)),
   Calls Try.prog 62 #[.pointer (some ⟨g,0,none⟩),.int .i64 a1] w fun e w'=>∃ v2_:Value,e = .returned (.agg #[.int .i64 r1,.string r2,v2_])∧Kd.N k58 58 w' w.heap.size (fun k_=>(w.heap.size≤k_)) v2_ r3∧IsS69 w0 w' g s0_0 r4 r5∧Below w0.heap.size w0 w'∧KeepBut w w' g none:=by
 induction k using Nat.strongRecOn with
 | _ k ih =>
 intro g s0_0 s0_1 s0_2 a1 r1 r2 r3 r4 r5 w0 w hI hB h
 cases k with
 | zero=>exact absurd h (by simp [spec_l3Draw.f])
 | succ k =>
 simp only [spec_l3Draw.f] at h
 have hu58:=Try.underlying58
 have HI0:=zk hI
 have HK:=zk (KeepBut.refl w g none)
 have HL:=zk hB.size
 clear hI
 have HW0:=zk hB.size
 have HB:=zk hB
 clear hB
 have H:=h
 clear h
 have HC3:=zk H
 clear H
 go_enter Try.func62,Try.ntmps62
 go_upto_region 1 with (first|((with_reducible refine gate_dst (N:=4) rfl ?_);refine zE (N:=4) (cs:=#[.int .i64 0,.string (⟨#[]⟩:ByteArray),.slice none 0 0]) (t:=58) ?_;intro gb62001 hg w4 hbox hb;replace HB:=zk (below_step za12 hb);have BK62001:=zk (hbox);have GW62001:=zk ((by rw [hg];exact (keep_size (w:=w) (g:=g) (row:=none) za6):w.heap.size≤gb62001));have GE62001:=zk ((Nat.le_trans HW0.out (by rw [hg];exact (keep_size (w:=w) (g:=g) (row:=none) za6):w.heap.size≤gb62001):w0.heap.size≤gb62001));have NB0_62001:=zk ((by rw [hg];exact Nat.ne_of_lt (IsS69.lt (show IsS69 w0 _ g s0_0 s0_1 s0_2 from za5)):g ≠ gb62001));have NB62001_0:=zk ((by rw [hg];exact Nat.ne_of_gt (IsS69.lt (show IsS69 w0 _ g s0_0 s0_1 s0_2 from za5)):gb62001 ≠ g));replace HI0:=zk (IsS69.below za5 hb);replace HK:=zk (KeepBut.trans za6 (KeepBut.of_below hb g none) (.inl rfl));clear hb hbox hg))
 (try simp only [Act.put,zt,zu,zv])
 go_cut [13] (fun v13 wc=>∃ (kq:Nat) (x13_2:Bool) (x1001_2:Int) (x1002_2:Int),v13 = .bool x13_2∧Aside0 (spec_l3Draw.j0 kq a1 x13_2 s0_0 x1001_2 x1002_2=some (r1,r2,r3,r4,r5))∧Aside0 (kq≤k)∧Aside0 (wc.heap[gb62001]? = some (.cells #[.int .i64 0,.string (⟨#[]⟩:ByteArray),(.slice none 0 0)] 58 (0,0)))∧Aside0 (IsS69 w0 wc g s0_0 x1001_2 x1002_2)∧Aside0 (KeepBut w wc g none)∧Aside0 (Below w0.heap.size w0 wc))
 case first =>
  have H:=HC3.out
  clear HC3
  by_cases c5:a1 < 2
  · rw [if_pos c5] at H
    have c5b0:=zdl c5
    clear c5
    (first|rw [c5b0]|(simp only [i64_w,i32_w];rw [c5b0])|skip)
    have H':=zk H
    clear H
    go_wp2
    go_meet
    case rel=>exact ⟨_,(true),(s0_1),(s0_2),za8,H',⟨za63⟩,⟨za1 BK62001.out⟩,⟨za11⟩,⟨za10⟩,⟨za15⟩⟩
  · rw [if_neg c5] at H
    have c5b0:=zdnl c5
    clear c5
    (first|rw [c5b0]|(simp only [i64_w,i32_w];rw [c5b0])|skip)
    replace H:=zo H
    obtain ⟨⟨t62002,t62003,t62004⟩,A60,H⟩:=H
    try dsimp only at H
    have A6:=zk A60
    clear A60
    have H':=zk H
    clear H
    go_wp2_with (first|(go_at_call 41;(with_reducible refine (spec_l1Once.calls g s0_0 s0_1 s0_2 5 t62002 t62003 t62004 w0 _ za11 za15 A6.out).mono ?_);rintro e w7 ⟨rfl,hi,hb,hk⟩;replace BK62001:=zk (KeepBut.blk hk (g':=gb62001) (o:=.cells #[.int .i64 0,.string (⟨#[]⟩:ByteArray),.slice none 0 0] 58 (0,0)) (za1 BK62001.out) NB62001_0.out (by simp));replace HK:=zk (KeepBut.trans za10 hk (.inl rfl));replace HB:=zk (hb);replace HI0:=zk (hi);(try clear hb);(try clear hb2);(try clear hk);(try clear hi)))
    go_meet
    case rel=>exact ⟨_,(t62002),(t62003),(t62004),za8,H',⟨za63⟩,⟨za1 BK62001.out⟩,⟨za11⟩,⟨za10⟩,⟨za15⟩⟩
 case rest =>
  clear HC3
  obtain ⟨kq,x13_2,x1001_2,x1002_2,rfl,HA,HJ2,BK62001,HI0,HK,HB⟩:=hcut
  cases kq with
  | zero=>exact absurd HA.out (by simp [spec_l3Draw.j0])
  | succ kj2 =>
   have H:=HA.out
   clear HA
   simp only [spec_l3Draw.j0] at H
   by_cases c8:x13_2=true
   subst c8
   rw [if_pos rfl] at H
   try dsimp only at H
   replace H:=zo H
   obtain ⟨⟨t62005,t62006,t62007⟩,A90,H⟩:=H
   try dsimp only at H
   have A9:=zk A90
   clear A90
   by_cases c10:t62005=0
   rw [if_pos c10] at H
   have c10b0:=zbt c10
   have c10b1:=zqn c10
   clear c10
   have fin1_:=zk trivial
   rotate_left
   rw [if_neg c10] at H
   have c10b0:=zbn c10
   have c10b1:=zqt c10
   by_cases c14:t62005=1
   rw [if_pos c14] at H
   have c14b0:=zbt c14
   have c14b1:=zqn c14
   clear c14
   have fin2_:=zk trivial
   rotate_left
   rw [if_neg c14] at H
   have c14b0:=zbn c14
   have c14b1:=zqt c14
   by_cases c18:t62005=2
   rw [if_pos c18] at H
   have c18b0:=zbt c18
   have c18b1:=zqn c18
   clear c18
   have fin3_:=zk trivial
   rotate_left
   rw [if_neg c18] at H
   have c18b0:=zbn c18
   have c18b1:=zqt c18
   obtain ⟨y62008,hy62008⟩:∃ y_:List ByteArray,y_=(([(⟨#[97]⟩:ByteArray),(⟨#[97]⟩:ByteArray),(⟨#[98]⟩:ByteArray),(⟨#[98]⟩:ByteArray),(⟨#[99]⟩:ByteArray)]:List ByteArray)):=⟨_,rfl⟩
   replace H:((spec_l1Pick.f s0_0 t62006 t62007 y62008).bind fun bt62011=>(some (3,bt62011.1,([]:List (S58)),bt62011.2.1,bt62011.2.2)))=some (r1,r2,r3,r4,r5):=by first|(rw [hy62008];with_reducible exact H)|(have H2_:=(Option.bind_some _ _).symm.trans H;rw [hy62008];with_reducible exact H2_)|(have H2_:=(Option.bind_some _ _).symm.trans H;with_reducible exact H2_)|with_reducible exact H|(rw [hy62008];exact H)|exact H
   have Ny62008:=zk hy62008
   clear hy62008
   replace H:=zo H
   obtain ⟨⟨t62011,t62012,t62013⟩,A220,H⟩:=H
   try dsimp only at H
   have A22:=zk A220
   clear A220
   have fin0_:=zk trivial
   rotate_left
   · replace c8:=Bool.eq_false_iff.mpr c8
     subst c8
     rw [if_neg (show ¬ (false=true) by decide)] at H
     try dsimp only at H
     replace H:=zo H
     obtain ⟨⟨t62014,t62015,t62016⟩,A300,H⟩:=H
     try dsimp only at H
     have A30:=zk A300
     clear A300
     have HC31:=zk H
     clear H
     go_upto_if 31 with (first|((with_reducible refine gate_callee (f:=42) rfl ?_);refine goesL_ (some 30) rfl rfl Try.func42 (by kernel_rfl) rfl #[.pointer (some ⟨g,0,none⟩),.int .i64 10] rfl za4 ?_;(with_reducible refine (spec_l1Below.calls g s0_0 x1001_2 x1002_2 10 t62014 t62015 t62016 w0 _ za11 za15 A30.out).mono ?_);rintro e w32 ⟨rfl,hi,hb,hk⟩;refine ⟨_,rfl,?_⟩;replace BK62001:=zk (KeepBut.blk hk (g':=gb62001) (o:=.cells #[.int .i64 0,.string (⟨#[]⟩:ByteArray),.slice none 0 0] 58 (0,0)) (za1 BK62001.out) NB62001_0.out (by simp));replace HK:=zk (KeepBut.trans za10 hk (.inl rfl));replace HB:=zk (hb);replace HI0:=zk (hi);(try clear hb);(try clear hb2);(try clear hk);(try clear hi)))
     (try simp only [Act.put,zt,zu,zv])
     go_cut [31] (fun v31 wc=>∃ (kq:Nat) (x31_30:Bool),v31 = .bool x31_30∧Aside0 (spec_l3Draw.j1 kq a1 t62014 x31_30 s0_0 t62015 t62016=some (r1,r2,r3,r4,r5))∧Aside0 (kq≤kj2)∧Aside0 (wc.heap[gb62001]? = some (.cells #[.int .i64 0,.string (⟨#[]⟩:ByteArray),(.slice none 0 0)] 58 (0,0)))∧Aside0 (IsS69 w0 wc g s0_0 t62015 t62016)∧Aside0 (KeepBut w wc g none)∧Aside0 (Below w0.heap.size w0 wc))
     case first =>
      have H:=HC31.out
      clear HC31
      by_cases c33:t62014=0
      · rw [if_pos c33] at H
        have c33b0:=zbt c33
        have c33b1:=zqn c33
        clear c33
        (first|rw [c33b0]|(simp only [i64_w,i32_w];rw [c33b0])|skip)
        have H':=zk H
        clear H
        go_wp2
        go_meet
        case rel=>exact ⟨_,((t62014 == 0)),za8,H',⟨za99⟩,⟨za1 BK62001.out⟩,⟨za11⟩,⟨za10⟩,⟨za15⟩⟩
      rw [if_neg c33] at H
      have c33b0:=zbn c33
      have c33b1:=zqt c33
      (first|rw [c33b0]|(simp only [i64_w,i32_w];rw [c33b0])|skip)
      by_cases c34:t62014=1
      · rw [if_pos c34] at H
        have c34b0:=zbt c34
        have c34b1:=zqn c34
        clear c34
        have H':=zk H
        clear H
        go_wp2
        go_meet
        case rel=>exact ⟨_,((t62014 == 1)),za8,H',⟨za99⟩,⟨za1 BK62001.out⟩,⟨za11⟩,⟨za10⟩,⟨za15⟩⟩
      · rw [if_neg c34] at H
        have c34b0:=zbn c34
        have c34b1:=zqt c34
        have H':=zk H
        clear H
        go_wp2
        go_meet
        case rel=>exact ⟨_,((t62014 == 2)),za8,H',⟨za99⟩,⟨za1 BK62001.out⟩,⟨za11⟩,⟨za10⟩,⟨za15⟩⟩
     case rest =>
      clear HC31
      try clear c8
      obtain ⟨kq,x31_30,rfl,HA,HJ30,BK62001,HI0,HK,HB⟩:=hcut
      cases kq with
      | zero=>exact absurd HA.out (by simp [spec_l3Draw.j1])
      | succ kj30 =>
       have H:=HA.out
       clear HA
       simp only [spec_l3Draw.j1] at H
       by_cases c35:x31_30=true
       · subst c35
         rw [if_pos rfl] at H
         try dsimp only at H
         replace H:=zo H
         obtain ⟨⟨t62017,t62018,t62019,t62022,t62023⟩,A360,H⟩:=H
         try dsimp only at H
         have A36:=zk A360
         clear A360
         obtain ⟨y62024,hy62024⟩:∃ y_:List (S58),y_=(([(⟨t62017,t62018,t62019⟩:S58)]:List (S58))):=⟨_,rfl⟩
         replace H:(some (8,(⟨#[]⟩:ByteArray),y62024,t62022,t62023))=some (r1,r2,r3,r4,r5):=by first|(rw [hy62024];with_reducible exact H)|(have H2_:=(Option.bind_some _ _).symm.trans H;rw [hy62024];with_reducible exact H2_)|(have H2_:=(Option.bind_some _ _).symm.trans H;with_reducible exact H2_)|with_reducible exact H|(rw [hy62024];exact H)|exact H
         have Ny62024:=zk hy62024
         clear hy62024
         simp only [Option.some.injEq,Prod.mk.injEq] at H
         obtain ⟨rfl,rfl,rfl,rfl,rfl⟩:=H
         go_wp2_with (first|((with_reducible refine gate_callee (f:=62) rfl ?_);refine goesL_ (some 38) rfl rfl Try.func62 (by kernel_rfl) rfl #[.pointer (some ⟨g,0,none⟩),.int .i64 (wrap64 (a1 - 1))] rfl za4 ?_;(with_reducible refine (ih kj30 (by have:=HJ2.out;have:=HJ30.out;omega) g s0_0 t62015 t62016 (wrap64 (a1 - 1)) t62017 t62018 t62019 t62022 t62023 w0 _ za11 za15 A36.out).mono ?_);rintro e w37 ⟨v62020,rfl,ho0,hi,hb,hk⟩;refine ⟨_,rfl,?_⟩;have HO62021:=zk (Kd.N_lower (Kd.N_mono (ok':=fun k_=>(w.heap.size≤k_)∧k_ ≠ gb62001∧k_ ≠ g) ho0 (fun k_ hk_=>⟨(Nat.le_trans (keep_size (w:=w) (g:=g) (row:=none) za10) hk_),(Kd.freshB (g:=gb62001) (o:=.cells #[.int .i64 0,.string (⟨#[]⟩:ByteArray),.slice none 0 0] 58 (0,0)) (za1 BK62001.out) k_ hk_),(IsS69.fresh za11 k_ hk_)⟩)) (keep_size (w:=w) (g:=g) (row:=none) za10));replace HB:=zk (hb);replace BK62001:=zk (KeepBut.blk hk (g':=gb62001) (o:=.cells #[.int .i64 0,.string (⟨#[]⟩:ByteArray),.slice none 0 0] 58 (0,0)) (za1 BK62001.out) NB62001_0.out (by simp));replace HK:=zk (KeepBut.trans za10 hk (.inl rfl));replace HI0:=zk (hi);(try clear hb);(try clear hb2);(try clear hk);(try clear hi);(try clear ho0);obtain ⟨Ao38,co38,eo38⟩:=Kd.N_slice HO62021.out;subst eo38)|((with_reducible refine gate_dst (N:=39) rfl ?_);refine Kd.N_lit k58 _ 58 ?hg (N':=39) ?hd (xs:=([(⟨t62017,t62018,t62019⟩:S58)]:List (S58))) (inner:=[.int .i64 t62017,.string t62018,.slice Ao38 t62019.length co38]) (ok:=(fun k_=>(w.heap.size≤k_)∧k_ ≠ gb62001∧k_ ≠ g)) (okp:=(fun k_=>(w.heap.size≤k_)∧k_ ≠ gb62001∧k_ ≠ g)) ?hr ?hp (fun _ hk=>hk) ((show ∀ k_,w37.heap.size≤k_→(fun k_=>(w.heap.size≤k_)∧k_ ≠ gb62001∧k_ ≠ g) k_ from fun k_ hk=>⟨(Nat.le_trans (keep_size (w:=w) (g:=g) (row:=none) za10) hk),Kd.freshB (g:=gb62001) (o:=.cells #[.int .i64 0,.string (⟨#[]⟩:ByteArray),.slice none 0 0] 58 (0,0)) (za1 BK62001.out) k_ hk,IsS69.fresh za11 k_ hk⟩) _ (Nat.le_refl _)) (Below.refl _ _) (Nat.le_refl _) (by simp) ?_;(case hd=>rfl);(case hg=>rfl);(case hr=>first|(go_simp;done)|(go_simp;rfl));(case hp=>exact (Reps.c3 (show Kd.FK k58 _ _ (⟨t62017,t62018,t62019⟩:S58) [.int .i64 t62017,.string t62018,.slice Ao38 t62019.length co38] from (k58_mkF _ _ (⟨t62017,t62018,t62019⟩:S58) (Kd.N_reads' (Kd.N_mono (ok':=(fun k_=>(w.heap.size≤k_)∧k_ ≠ gb62001∧k_ ≠ g)) (HO62021.out) (fun k_ hk=>⟨hk.1,⟨hk.2.1,hk.2.2⟩⟩))).2.1 (Kd.N_F (Kd.N_mono (ok':=(fun k_=>(w.heap.size≤k_)∧k_ ≠ gb62001∧k_ ≠ g)) (HO62021.out) (fun k_ hk=>⟨hk.1,⟨hk.2.1,hk.2.2⟩⟩))))) (Reps.none _ _)));intro v62025 w39 ho40 hb hg_ hnew_;clear hg_ hnew_;(first|rw [← Ny62024.out] at ho40|(simp only [Int.reduceToNat] at ho40;rw [← Ny62024.out] at ho40));have HO62026:=zk (Kd.N_lower ho40 (keep_size (w:=w) (g:=g) (row:=none) za10));replace BK62001:=zk (zb BK62001.out hb);replace HB:=zk (below_step za15 hb);replace HI0:=zk (IsS69.below za11 hb);replace HK:=zk (KeepBut.trans za10 (KeepBut.of_below hb g none) (.inl rfl));clear HO62021;clear hb ho40;obtain ⟨Ao41,co41,eo41⟩:=Kd.N_slice HO62026.out;subst eo41;have hnb42:=NB62001_0.out;have hnc42:=NB0_62001.out;obtain ⟨hcz43_0,hcz43_1,hcz43_2,hfz43_0,hfz43_1,hfz43_2⟩:=blk3 BK62001.out))
         refine bodyPost_ret (results_cell_row rfl _ _ gb62001 58 #[.int .i64 8,.string (⟨#[]⟩:ByteArray),.slice Ao41 y62024.length co41] (0,0) _ rfl (zpu BK62001.out) Try.underlying58 rfl (by kernel_rfl)) rfl ?_
         exact ⟨_,za9,by (with_reducible repeat (first|apply Kd.N_alloc|apply Kd.N_drewN|apply Kd.N_drew));exact Kd.N_mono (zfN (zfN (zfN (Kd.N_mono HO62026.out (fun k_ hk=>(⟨hk,hk.2.1⟩:_∧k_ ≠ gb62001)))))) (fun _ hk=>hk.1.1),za11,za15,za10⟩
       replace c35:=Bool.eq_false_iff.mpr c35
       subst c35
       rw [if_neg (show ¬ (false=true) by decide)] at H
       try dsimp only at H
       by_cases c44:t62014=3
       · rw [if_pos c44] at H
         have c44b0:=zbt c44
         have c44b1:=zqn c44
         clear c44
         replace H:=zo H
         obtain ⟨⟨t62027,t62028,t62029,t62032,t62033⟩,A450,H⟩:=H
         try dsimp only at H
         have A45:=zk A450
         clear A450
         obtain ⟨y62034,hy62034⟩:∃ y_:List (S58),y_=(([(⟨t62027,t62028,t62029⟩:S58)]:List (S58))):=⟨_,rfl⟩
         replace H:(some (9,(⟨#[]⟩:ByteArray),y62034,t62032,t62033))=some (r1,r2,r3,r4,r5):=by first|(rw [hy62034];with_reducible exact H)|(have H2_:=(Option.bind_some _ _).symm.trans H;rw [hy62034];with_reducible exact H2_)|(have H2_:=(Option.bind_some _ _).symm.trans H;with_reducible exact H2_)|with_reducible exact H|(rw [hy62034];exact H)|exact H
         have Ny62034:=zk hy62034
         clear hy62034
         simp only [Option.some.injEq,Prod.mk.injEq] at H
         obtain ⟨rfl,rfl,rfl,rfl,rfl⟩:=H
         go_wp2_with (first|((with_reducible refine gate_callee (f:=62) rfl ?_);refine goesL_ (some 46) rfl rfl Try.func62 (by kernel_rfl) rfl #[.pointer (some ⟨g,0,none⟩),.int .i64 (wrap64 (a1 - 1))] rfl za4 ?_;(with_reducible refine (ih kj30 (by have:=HJ2.out;have:=HJ30.out;omega) g s0_0 t62015 t62016 (wrap64 (a1 - 1)) t62027 t62028 t62029 t62032 t62033 w0 _ za11 za15 A45.out).mono ?_);rintro e w46 ⟨v62030,rfl,ho0,hi,hb,hk⟩;refine ⟨_,rfl,?_⟩;have HO62031:=zk (Kd.N_lower (Kd.N_mono (ok':=fun k_=>(w.heap.size≤k_)∧k_ ≠ gb62001∧k_ ≠ g) ho0 (fun k_ hk_=>⟨(Nat.le_trans (keep_size (w:=w) (g:=g) (row:=none) za10) hk_),(Kd.freshB (g:=gb62001) (o:=.cells #[.int .i64 0,.string (⟨#[]⟩:ByteArray),.slice none 0 0] 58 (0,0)) (za1 BK62001.out) k_ hk_),(IsS69.fresh za11 k_ hk_)⟩)) (keep_size (w:=w) (g:=g) (row:=none) za10));replace HB:=zk (hb);replace BK62001:=zk (KeepBut.blk hk (g':=gb62001) (o:=.cells #[.int .i64 0,.string (⟨#[]⟩:ByteArray),.slice none 0 0] 58 (0,0)) (za1 BK62001.out) NB62001_0.out (by simp));replace HK:=zk (KeepBut.trans za10 hk (.inl rfl));replace HI0:=zk (hi);(try clear hb);(try clear hb2);(try clear hk);(try clear hi);(try clear ho0);obtain ⟨Ao47,co47,eo47⟩:=Kd.N_slice HO62031.out;subst eo47)|((with_reducible refine gate_dst (N:=47) rfl ?_);refine Kd.N_lit k58 _ 58 ?hg (N':=47) ?hd (xs:=([(⟨t62027,t62028,t62029⟩:S58)]:List (S58))) (inner:=[.int .i64 t62027,.string t62028,.slice Ao47 t62029.length co47]) (ok:=(fun k_=>(w.heap.size≤k_)∧k_ ≠ gb62001∧k_ ≠ g)) (okp:=(fun k_=>(w.heap.size≤k_)∧k_ ≠ gb62001∧k_ ≠ g)) ?hr ?hp (fun _ hk=>hk) ((show ∀ k_,w46.heap.size≤k_→(fun k_=>(w.heap.size≤k_)∧k_ ≠ gb62001∧k_ ≠ g) k_ from fun k_ hk=>⟨(Nat.le_trans (keep_size (w:=w) (g:=g) (row:=none) za10) hk),Kd.freshB (g:=gb62001) (o:=.cells #[.int .i64 0,.string (⟨#[]⟩:ByteArray),.slice none 0 0] 58 (0,0)) (za1 BK62001.out) k_ hk,IsS69.fresh za11 k_ hk⟩) _ (Nat.le_refl _)) (Below.refl _ _) (Nat.le_refl _) (by simp) ?_;(case hd=>rfl);(case hg=>rfl);(case hr=>first|(go_simp;done)|(go_simp;rfl));(case hp=>exact (Reps.c3 (show Kd.FK k58 _ _ (⟨t62027,t62028,t62029⟩:S58) [.int .i64 t62027,.string t62028,.slice Ao47 t62029.length co47] from (k58_mkF _ _ (⟨t62027,t62028,t62029⟩:S58) (Kd.N_reads' (Kd.N_mono (ok':=(fun k_=>(w.heap.size≤k_)∧k_ ≠ gb62001∧k_ ≠ g)) (HO62031.out) (fun k_ hk=>⟨hk.1,⟨hk.2.1,hk.2.2⟩⟩))).2.1 (Kd.N_F (Kd.N_mono (ok':=(fun k_=>(w.heap.size≤k_)∧k_ ≠ gb62001∧k_ ≠ g)) (HO62031.out) (fun k_ hk=>⟨hk.1,⟨hk.2.1,hk.2.2⟩⟩))))) (Reps.none _ _)));intro v62035 w48 ho49 hb hg_ hnew_;clear hg_ hnew_;(first|rw [← Ny62034.out] at ho49|(simp only [Int.reduceToNat] at ho49;rw [← Ny62034.out] at ho49));have HO62036:=zk (Kd.N_lower ho49 (keep_size (w:=w) (g:=g) (row:=none) za10));replace BK62001:=zk (zb BK62001.out hb);replace HB:=zk (below_step za15 hb);replace HI0:=zk (IsS69.below za11 hb);replace HK:=zk (KeepBut.trans za10 (KeepBut.of_below hb g none) (.inl rfl));clear HO62031;clear hb ho49;obtain ⟨Ao50,co50,eo50⟩:=Kd.N_slice HO62036.out;subst eo50;have hnb51:=NB62001_0.out;have hnc51:=NB0_62001.out;obtain ⟨hcz52_0,hcz52_1,hcz52_2,hfz52_0,hfz52_1,hfz52_2⟩:=blk3 BK62001.out))
         refine bodyPost_ret (results_cell_row rfl _ _ gb62001 58 #[.int .i64 9,.string (⟨#[]⟩:ByteArray),.slice Ao50 y62034.length co50] (0,0) _ rfl (zpu BK62001.out) Try.underlying58 rfl (by kernel_rfl)) rfl ?_
         exact ⟨_,za9,by (with_reducible repeat (first|apply Kd.N_alloc|apply Kd.N_drewN|apply Kd.N_drew));exact Kd.N_mono (zfN (zfN (zfN (Kd.N_mono HO62036.out (fun k_ hk=>(⟨hk,hk.2.1⟩:_∧k_ ≠ gb62001)))))) (fun _ hk=>hk.1.1),za11,za15,za10⟩
       rw [if_neg c44] at H
       have c44b0:=zbn c44
       have c44b1:=zqt c44
       by_cases c53:t62014=4
       · rw [if_pos c53] at H
         have c53b0:=zbt c53
         have c53b1:=zqn c53
         clear c53
         replace H:=zo H
         obtain ⟨⟨t62037,t62038,t62039,t62042,t62043⟩,A540,H⟩:=H
         try dsimp only at H
         have A54:=zk A540
         clear A540
         replace H:=zo H
         obtain ⟨⟨t62045,t62046,t62047,t62050,t62051⟩,A550,H⟩:=H
         try dsimp only at H
         have A55:=zk A550
         clear A550
         obtain ⟨y62052,hy62052⟩:∃ y_:List (S58),y_=(([(⟨t62037,t62038,t62039⟩:S58),(⟨t62045,t62046,t62047⟩:S58)]:List (S58))):=⟨_,rfl⟩
         replace H:(some (7,(⟨#[]⟩:ByteArray),y62052,t62050,t62051))=some (r1,r2,r3,r4,r5):=by first|(rw [hy62052];with_reducible exact H)|(have H2_:=(Option.bind_some _ _).symm.trans H;rw [hy62052];with_reducible exact H2_)|(have H2_:=(Option.bind_some _ _).symm.trans H;with_reducible exact H2_)|with_reducible exact H|(rw [hy62052];exact H)|exact H
         have Ny62052:=zk hy62052
         clear hy62052
         simp only [Option.some.injEq,Prod.mk.injEq] at H
         obtain ⟨rfl,rfl,rfl,rfl,rfl⟩:=H
         try go_wp2_with (first|((with_reducible refine gate_callee (f:=62) rfl ?_);refine goesL_ (some 54) rfl rfl Try.func62 (by kernel_rfl) rfl #[.pointer (some ⟨g,0,none⟩),.int .i64 (wrap64 (a1 - 1))] rfl za4 ?_;(with_reducible refine (ih kj30 (by have:=HJ2.out;have:=HJ30.out;omega) g s0_0 t62015 t62016 (wrap64 (a1 - 1)) t62037 t62038 t62039 t62042 t62043 w0 _ za11 za15 A54.out).mono ?_);rintro e w56 ⟨v62040,rfl,ho0,hi,hb,hk⟩;refine ⟨_,rfl,?_⟩;have HO62041:=zk (Kd.N_lower (Kd.N_mono (ok':=fun k_=>(w.heap.size≤k_)∧k_ ≠ gb62001∧k_ ≠ g) ho0 (fun k_ hk_=>⟨(Nat.le_trans (keep_size (w:=w) (g:=g) (row:=none) za10) hk_),(Kd.freshB (g:=gb62001) (o:=.cells #[.int .i64 0,.string (⟨#[]⟩:ByteArray),.slice none 0 0] 58 (0,0)) (za1 BK62001.out) k_ hk_),(IsS69.fresh za11 k_ hk_)⟩)) (keep_size (w:=w) (g:=g) (row:=none) za10));replace HB:=zk (hb);replace BK62001:=zk (KeepBut.blk hk (g':=gb62001) (o:=.cells #[.int .i64 0,.string (⟨#[]⟩:ByteArray),.slice none 0 0] 58 (0,0)) (za1 BK62001.out) NB62001_0.out (by simp));replace HK:=zk (KeepBut.trans za10 hk (.inl rfl));replace HI0:=zk (hi);(try clear hb);(try clear hb2);(try clear hk);(try clear hi);(try clear ho0))|((with_reducible refine gate_dst (N:=5) rfl ?_);refine zE (N:=5) (cs:=#[.int .i64 0,.string (⟨#[]⟩:ByteArray),.slice none 0 0]) (t:=58) ?_;intro gb62044 hg w57 hbox hb;replace HO62041:=zk (Kd.N_below (Kd.N_elderB (za2 HO62041.out) gb62044 (Nat.le_of_eq hg.symm)) hb);replace HB:=zk (below_step za15 hb);have BK62044:=zk (hbox);have GW62044:=zk ((by rw [hg];exact (keep_size (w:=w) (g:=g) (row:=none) za10):w.heap.size≤gb62044));have GE62044:=zk ((Nat.le_trans HW0.out (by rw [hg];exact (keep_size (w:=w) (g:=g) (row:=none) za10):w.heap.size≤gb62044):w0.heap.size≤gb62044));have NB62001_62044:=zk ((by rw [hg];exact Nat.ne_of_lt (zl BK62001.out):gb62001 ≠ gb62044));have NB62044_62001:=zk ((by rw [hg];exact Nat.ne_of_gt (zl BK62001.out):gb62044 ≠ gb62001));have NB0_62044:=zk ((by rw [hg];exact Nat.ne_of_lt (IsS69.lt (show IsS69 w0 _ g s0_0 t62042 t62043 from za11)):g ≠ gb62044));have NB62044_0:=zk ((by rw [hg];exact Nat.ne_of_gt (IsS69.lt (show IsS69 w0 _ g s0_0 t62042 t62043 from za11)):gb62044 ≠ g));replace BK62001:=zk (zb BK62001.out hb);replace HI0:=zk (IsS69.below za11 hb);replace HK:=zk (KeepBut.trans za10 (KeepBut.of_below hb g none) (.inl rfl));clear hb hbox hg;have hnb58:=NB62044_62001.out;have hnc58:=NB62001_62044.out;have hnb59:=NB62044_0.out;have hnc59:=NB0_62044.out;obtain ⟨hcz60_0,hcz60_1,hcz60_2,hfz60_0,hfz60_1,hfz60_2⟩:=blk3 BK62044.out;obtain ⟨Ao61,co61,eo61⟩:=Kd.N_slice HO62041.out;subst eo61))
         have n0_:Aside0 (Kd.N k58 58 (((w57.setCell ⟨gb62044,0,none⟩ (.int .i64 t62037)).setCell ⟨gb62044,1,none⟩ (.string t62038)).setCell ⟨gb62044,2,none⟩ (.slice Ao61 t62039.length co61)) w.heap.size (fun k_=>(w.heap.size≤k_)∧k_ ≠ gb62001∧k_ ≠ g∧k_ ≠ gb62044) (.slice Ao61 t62039.length co61) t62039):=⟨by (with_reducible repeat (first|apply Kd.N_alloc|apply Kd.N_drewN|apply Kd.N_drew));exact Kd.N_mono (zfN (zfN (zfN (Kd.N_mono HO62041.out (fun k_ hk=>(⟨hk,hk.2⟩:_∧k_ ≠ gb62044)))))) (fun _ hk=>⟨hk.1.1.1,⟨hk.1.1.2.1,⟨hk.1.1.2.2,hk.1.2⟩⟩⟩)⟩
         have n1_:Aside0 ((((w57.setCell ⟨gb62044,0,none⟩ (.int .i64 t62037)).setCell ⟨gb62044,1,none⟩ (.string t62038)).setCell ⟨gb62044,2,none⟩ (.slice Ao61 t62039.length co61)).heap[gb62001]? = some (.cells #[.int .i64 0,.string (⟨#[]⟩:ByteArray),.slice none 0 0] 58 (0,0))):=⟨by (with_reducible repeat (first|refine blk_drewN ?_ _|refine blk_drew ?_|refine blk_alloc ?_ _));refine blk_far ?_ NB62001_62044.out _;(with_reducible repeat (first|refine blk_drewN ?_ _|refine blk_drew ?_|refine blk_alloc ?_ _));refine blk_far ?_ NB62001_62044.out _;(with_reducible repeat (first|refine blk_drewN ?_ _|refine blk_drew ?_|refine blk_alloc ?_ _));refine blk_far ?_ NB62001_62044.out _;(with_reducible repeat (first|refine blk_drewN ?_ _|refine blk_drew ?_|refine blk_alloc ?_ _));exact BK62001.out⟩
         have n2_:Aside0 ((((w57.setCell ⟨gb62044,0,none⟩ (.int .i64 t62037)).setCell ⟨gb62044,1,none⟩ (.string t62038)).setCell ⟨gb62044,2,none⟩ (.slice Ao61 t62039.length co61)).heap[gb62044]? = some (.cells #[.int .i64 t62037,.string t62038,.slice Ao61 t62039.length co61] 58 (0,0))):=⟨zpu BK62044.out⟩
         have n3_:Aside0 (IsS69 w0 (((w57.setCell ⟨gb62044,0,none⟩ (.int .i64 t62037)).setCell ⟨gb62044,1,none⟩ (.string t62038)).setCell ⟨gb62044,2,none⟩ (.slice Ao61 t62039.length co61)) g s0_0 t62042 t62043):=⟨za59⟩
         have n4_:Aside0 (KeepBut w (((w57.setCell ⟨gb62044,0,none⟩ (.int .i64 t62037)).setCell ⟨gb62044,1,none⟩ (.string t62038)).setCell ⟨gb62044,2,none⟩ (.slice Ao61 t62039.length co61)) g none):=⟨za50⟩
         have n5_:Aside0 (Below w0.heap.size w0 (((w57.setCell ⟨gb62044,0,none⟩ (.int .i64 t62037)).setCell ⟨gb62044,1,none⟩ (.string t62038)).setCell ⟨gb62044,2,none⟩ (.slice Ao61 t62039.length co61))):=⟨za76⟩
         (try clear HO62041)
         (try clear BK62001)
         (try clear BK62044)
         (try clear HI0)
         (try clear HK)
         (try clear HB)
         generalize (((w57.setCell ⟨gb62044,0,none⟩ (.int .i64 t62037)).setCell ⟨gb62044,1,none⟩ (.string t62038)).setCell ⟨gb62044,2,none⟩ (.slice Ao61 t62039.length co61))=w62 at n0_ n1_ n2_ n3_ n4_ n5_ ⊢
         have HO62041:=n0_
         have BK62001:=n1_
         have BK62044:=n2_
         have HI0:=n3_
         have HK:=n4_
         have HB:=n5_
         clear n0_ n1_ n2_ n3_ n4_ n5_
         replace HO62041:=zk (Kd.N_drew HO62041.out)
         replace BK62001:=zk (blk_drew BK62001.out)
         replace BK62044:=zk (blk_drew BK62044.out)
         replace HI0:=zk (IsS69.drew HI0.out)
         replace HK:=zk (keep_drew HK.out)
         replace HB:=zk (below_drew1 HB.out)
         refine start_ (n:=8) (S:=fun w'=>w'.cell? ⟨gb62044,0,none⟩=some (.int .i64 t62037)∧w'.cell? ⟨gb62044,1,none⟩=some (.string t62038)∧w'.cell? ⟨gb62044,2,none⟩=some (.slice Ao61 t62039.length co61)) (ds:=[]) #[false,false,false,false,false,false,false,false] (by kernel_rfl) rfl rfl ⟨(blk_cell BK62044.out 0).trans rfl,(blk_cell BK62044.out 1).trans rfl,(blk_cell BK62044.out 2).trans rfl⟩ (fun hHeld=>?_);refine with_tabW spec_l3Draw.tab19 spec_l3Draw.bits19 (fun HT_ HW_=>?_)
         generalize w62.drew=w63 at HO62041 BK62001 BK62044 HI0 HK HB hHeld ⊢
         refine zy 1 (some 56) HT_.out ?_
         refine zy 2 (some 57) HT_.out ?_
         refine zy 3 (some 58) HT_.out ?_
         refine ztk 0 (some 55) HT_.out HW_.out hHeld ?_
         refine zon 4 (some 59) HT_.out (fun K hK=>?_)
         refine goes_ Try.func62 (by kernel_rfl) rfl #[.pointer (some ⟨g,0,none⟩),.int .i64 (wrap64 (a1 - 1))] (by rfl) rfl rfl za4 ?_
         with_reducible refine (ih kj30 (by have:=HJ2.out;have:=HJ30.out;omega) g s0_0 t62042 t62043 (wrap64 (a1 - 1)) t62045 t62046 t62047 t62050 t62051 w0 _ za59 za76 A55.out).mono ?_
         rintro e w64 ⟨v62048,rfl,ho0,hi,hb,hk⟩
         refine ⟨_,rfl,?_⟩
         have HO62049:=zk (Kd.N_lower (Kd.N_mono (ok':=fun k_=>(w.heap.size≤k_)∧some k_ ≠ (.slice Ao61 t62039.length co61:Value).ownBlock∧k_ ≠ gb62001∧k_ ≠ gb62044∧k_ ≠ g) ho0 (fun k_ hk_=>⟨(Nat.le_trans (keep_size (w:=w) (g:=g) (row:=none) za50) hk_),(Kd.fresh' (Kd.N_lt (za2 HO62041.out)) k_ hk_),(Kd.freshB (g:=gb62001) (o:=.cells #[.int .i64 0,.string (⟨#[]⟩:ByteArray),.slice none 0 0] 58 (0,0)) (za1 BK62001.out) k_ hk_),(Kd.freshB (g:=gb62044) (o:=.cells #[.int .i64 t62037,.string t62038,.slice Ao61 t62039.length co61] 58 (0,0)) (za1 BK62044.out) k_ hk_),(IsS69.fresh za59 k_ hk_)⟩)) (keep_size (w:=w) (g:=g) (row:=none) za50))
         replace HB:=zk (hb)
         replace BK62001:=zk (KeepBut.blk hk (g':=gb62001) (o:=.cells #[.int .i64 0,.string (⟨#[]⟩:ByteArray),.slice none 0 0] 58 (0,0)) (za1 BK62001.out) NB62001_0.out (by simp))
         replace HO62041:=zk (Kd.N_mono (Kd.N_told (Kd.N_oldK (Kd.N_mono (ok:=fun k_=>(((w.heap.size≤k_))∧(k_ ≠ gb62001∧(k_ ≠ g∧k_ ≠ gb62044)))) (za2 HO62041.out) (fun k_ hk_=>(⟨hk_,hk_.2.2.1⟩:_∧k_ ≠ g))) hk) (Kd.N_base ho0)) (fun _ h_=>h_.1))
         replace BK62044:=zk (KeepBut.blk hk (g':=gb62044) (o:=.cells #[.int .i64 t62037,.string t62038,.slice Ao61 t62039.length co61] 58 (0,0)) (za1 BK62044.out) NB62044_0.out (by simp))
         replace HK:=zk (KeepBut.trans za50 hk (.inl rfl))
         replace HI0:=zk (hi)
         (try clear hb)
         (try clear hb2)
         (try clear hk)
         (try clear hi)
         (try clear ho0)
         obtain ⟨Ao65,co65,eo65⟩:=Kd.N_slice HO62049.out
         (first|subst eo65|(injection eo65 with f1_ f2_ f3_;have f4_:=f1_.symm;have f5_:=f3_.symm;clear f1_ f2_ f3_;subst f4_;subst f5_))
         refine hK.out _ _ ⟨(blk_cell BK62044.out 0).trans rfl,(blk_cell BK62044.out 1).trans rfl,(blk_cell BK62044.out 2).trans rfl⟩ (fun hHeld=>?_)
         clear hK K
         refine zno (some 59) ?_
         refine zon 5 (some 60) HT_.out (fun K hK=>?_)
         refine Kd.N_lit_step k58 _ 58 ?hg (N':=60) ?hd (xs:=([(⟨t62037,t62038,t62039⟩:S58),(⟨t62045,t62046,t62047⟩:S58)]:List (S58))) (inner:=[.int .i64 t62037,.string t62038,.slice Ao61 t62039.length co61,.int .i64 t62045,.string t62046,.slice Ao65 t62047.length co65]) (ok:=(fun k_=>(w.heap.size≤k_)∧k_ ≠ gb62001∧k_ ≠ gb62044∧k_ ≠ g)) (okp:=(fun k_=>(w.heap.size≤k_)∧k_ ≠ gb62001∧k_ ≠ gb62044∧k_ ≠ g)) ?hr ?hp (fun _ hk=>hk) ((show ∀ k_,w64.heap.size≤k_→(fun k_=>(w.heap.size≤k_)∧k_ ≠ gb62001∧k_ ≠ gb62044∧k_ ≠ g) k_ from fun k_ hk=>⟨(Nat.le_trans (keep_size (w:=w) (g:=g) (row:=none) za50) hk),Kd.freshB (g:=gb62001) (o:=.cells #[.int .i64 0,.string (⟨#[]⟩:ByteArray),.slice none 0 0] 58 (0,0)) (za1 BK62001.out) k_ hk,Kd.freshB (g:=gb62044) (o:=.cells #[.int .i64 t62037,.string t62038,.slice Ao61 t62039.length co61] 58 (0,0)) (za1 BK62044.out) k_ hk,IsS69.fresh za59 k_ hk⟩) _ (Nat.le_refl _)) (Below.refl _ _) (Nat.le_refl _) (by simp) ?_;(case hd=>rfl);(case hg=>rfl);(case hr=>first|(go_simp;done)|(go_simp;rfl));(case hp=>exact (Reps.c3 (show Kd.FK k58 _ _ (⟨t62037,t62038,t62039⟩:S58) [.int .i64 t62037,.string t62038,.slice Ao61 t62039.length co61] from (k58_mkF _ _ (⟨t62037,t62038,t62039⟩:S58) (Kd.N_reads' (Kd.N_mono (ok':=(fun k_=>(w.heap.size≤k_)∧k_ ≠ gb62001∧k_ ≠ gb62044∧k_ ≠ g)) (HO62041.out) (fun k_ hk=>⟨hk.1.1,⟨hk.1.2.1,⟨hk.1.2.2.2,hk.1.2.2.1⟩⟩⟩))).2.1 (Kd.N_F (Kd.N_mono (ok':=(fun k_=>(w.heap.size≤k_)∧k_ ≠ gb62001∧k_ ≠ gb62044∧k_ ≠ g)) (HO62041.out) (fun k_ hk=>⟨hk.1.1,⟨hk.1.2.1,⟨hk.1.2.2.2,hk.1.2.2.1⟩⟩⟩))))) (Reps.c3 (show Kd.FK k58 _ _ (⟨t62045,t62046,t62047⟩:S58) [.int .i64 t62045,.string t62046,.slice Ao65 t62047.length co65] from (k58_mkF _ _ (⟨t62045,t62046,t62047⟩:S58) (Kd.N_reads' (Kd.N_mono (ok':=(fun k_=>(w.heap.size≤k_)∧k_ ≠ gb62001∧k_ ≠ gb62044∧k_ ≠ g)) (HO62049.out) (fun k_ hk=>⟨hk.1,⟨hk.2.2.1,⟨hk.2.2.2.1,hk.2.2.2.2⟩⟩⟩))).2.1 (Kd.N_F (Kd.N_mono (ok':=(fun k_=>(w.heap.size≤k_)∧k_ ≠ gb62001∧k_ ≠ gb62044∧k_ ≠ g)) (HO62049.out) (fun k_ hk=>⟨hk.1,⟨hk.2.2.1,⟨hk.2.2.2.1,hk.2.2.2.2⟩⟩⟩))))) (Reps.none _ _))))
         intro v62053 w66 ho67 hb hg_ hnew_
         clear hg_ hnew_
         (first|rw [← Ny62052.out] at ho67|(simp only [Int.reduceToNat] at ho67;rw [← Ny62052.out] at ho67))
         have HO62054:=zk (Kd.N_lower ho67 (keep_size (w:=w) (g:=g) (row:=none) za50))
         replace BK62001:=zk (zb BK62001.out hb)
         replace BK62044:=zk (zb BK62044.out hb)
         replace HB:=zk (below_step za76 hb)
         replace HI0:=zk (IsS69.below za59 hb)
         replace HK:=zk (KeepBut.trans za50 (KeepBut.of_below hb g none) (.inl rfl))
         clear HO62041
         clear HO62049
         clear hb ho67
         obtain ⟨Ao68,co68,eo68⟩:=Kd.N_slice HO62054.out
         (first|subst eo68|(injection eo68 with f1_ f2_ f3_;have f4_:=f1_.symm;have f5_:=f3_.symm;clear f1_ f2_ f3_;subst f4_;subst f5_))
         refine hK.out _ _ ⟨(blk_cell BK62044.out 0).trans rfl,(blk_cell BK62044.out 1).trans rfl,(blk_cell BK62044.out 2).trans rfl⟩ (fun hHeld=>?_)
         clear hK K
         refine zno (some 60) ?_
         refine zy 6 (some 61) HT_.out ?_
         refine zon 7 none HT_.out (fun K hK=>?_)
         have hs69:w66.cell? ⟨gb62001,0,none⟩=some (.int .i64 0):=(blk_cell BK62001.out 0).trans rfl
         have hfs69:=blk_frozen BK62001.out 0
         have hns69_1:=NB62044_62001.out
         have hms69_1:=NB62001_62044.out
         have hs70:w66.cell? ⟨gb62001,1,none⟩=some (.string (⟨#[]⟩:ByteArray)):=(blk_cell BK62001.out 1).trans rfl
         have hfs70:=blk_frozen BK62001.out 1
         have hns70_1:=NB62044_62001.out
         have hms70_1:=NB62001_62044.out
         have hs71:w66.cell? ⟨gb62001,2,none⟩=some (.slice none 0 0):=(blk_cell BK62001.out 2).trans rfl
         have hfs71:=blk_frozen BK62001.out 2
         have hns71_1:=NB62044_62001.out
         have hms71_1:=NB62001_62044.out
         refine skip_ (w1:=?_) (by rfl) rfl ?_ ?_
         rotate_left
         · go_simp
           rfl
         refine hK.out _ _ ⟨((cell_far (p:=⟨gb62001,_,none⟩) NB62044_62001.out _).trans (((cell_far (p:=⟨gb62001,_,none⟩) NB62044_62001.out _).trans (((cell_far (p:=⟨gb62001,_,none⟩) NB62044_62001.out _).trans (hHeld.1)))))),((cell_far (p:=⟨gb62001,_,none⟩) NB62044_62001.out _).trans (((cell_far (p:=⟨gb62001,_,none⟩) NB62044_62001.out _).trans (((cell_far (p:=⟨gb62001,_,none⟩) NB62044_62001.out _).trans (hHeld.2.1)))))),((cell_far (p:=⟨gb62001,_,none⟩) NB62044_62001.out _).trans (((cell_far (p:=⟨gb62001,_,none⟩) NB62044_62001.out _).trans (((cell_far (p:=⟨gb62001,_,none⟩) NB62044_62001.out _).trans (hHeld.2.2))))))⟩ (fun hHeld=>?_)
         clear hK K
         refine done_ (done_of HT_.out (by kernel_rfl)) ?_
         try go_wp2
         refine bodyPost_ret (results_cell_row rfl _ _ gb62001 58 #[.int .i64 7,.string (⟨#[]⟩:ByteArray),.slice Ao68 y62052.length co68] (0,0) _ rfl (zpu BK62001.out) Try.underlying58 rfl (by kernel_rfl)) rfl ?_
         exact ⟨_,za9,by (with_reducible repeat (first|apply Kd.N_alloc|apply Kd.N_drewN|apply Kd.N_drew));exact Kd.N_mono (zfN (zfN (zfN (Kd.N_mono HO62054.out (fun k_ hk=>(⟨hk,hk.2.1⟩:_∧k_ ≠ gb62001)))))) (fun _ hk=>hk.1.1),za59,za76,za50⟩
       · rw [if_neg c53] at H
         have c53b0:=zbn c53
         have c53b1:=zqt c53
         have HC72:=zk H
         clear H
         go_upto_if 62 with (fail)
         go_cut [62] (fun v62 wc=>∃ (kq:Nat) (x62_71:Bool),v62 = .bool x62_71∧Aside0 (spec_l3Draw.j2 kq a1 x62_71 s0_0 t62015 t62016=some (r1,r2,r3,r4,r5))∧Aside0 (kq≤kj30)∧Aside0 (wc.heap[gb62001]? = some (.cells #[.int .i64 0,.string (⟨#[]⟩:ByteArray),(.slice none 0 0)] 58 (0,0)))∧Aside0 (IsS69 w0 wc g s0_0 t62015 t62016)∧Aside0 (KeepBut w wc g none)∧Aside0 (Below w0.heap.size w0 wc))
         case first =>
          have H:=HC72.out
          clear HC72
          by_cases c73:t62014=5
          · rw [if_pos c73] at H
            have c73b0:=zbt c73
            have c73b1:=zqn c73
            clear c73
            (first|rw [c73b0]|(simp only [i64_w,i32_w];rw [c73b0])|skip)
            have H':=zk H
            clear H
            go_wp2
            go_meet
            case rel=>exact ⟨_,((t62014 == 5)),za8,H',⟨by have:=HJ2.out;have:=HJ30.out;first|omega|exact Nat.le_refl _⟩,⟨za1 BK62001.out⟩,⟨za11⟩,⟨za10⟩,⟨za15⟩⟩
          · rw [if_neg c73] at H
            have c73b0:=zbn c73
            have c73b1:=zqt c73
            (first|rw [c73b0]|(simp only [i64_w,i32_w];rw [c73b0])|skip)
            have H':=zk H
            clear H
            go_wp2
            go_meet
            case rel=>exact ⟨_,((t62014 == 6)),za8,H',⟨by have:=HJ2.out;have:=HJ30.out;first|omega|exact Nat.le_refl _⟩,⟨za1 BK62001.out⟩,⟨za11⟩,⟨za10⟩,⟨za15⟩⟩
         case rest =>
          clear HC72
          try clear c8
          try clear c53
          try clear c53b0
          try clear c53b1
          obtain ⟨kq,x62_71,rfl,HA,HJ71,BK62001,HI0,HK,HB⟩:=hcut
          cases kq with
          | zero=>exact absurd HA.out (by simp [spec_l3Draw.j2])
          | succ kj71 =>
           have H:=HA.out
           clear HA
           simp only [spec_l3Draw.j2] at H
           by_cases c74:x62_71=true
           · subst c74
             rw [if_pos rfl] at H
             try dsimp only at H
             replace H:=zo H
             obtain ⟨⟨t62055,t62056,t62057,t62060,t62061⟩,A750,H⟩:=H
             try dsimp only at H
             have A75:=zk A750
             clear A750
             replace H:=zo H
             obtain ⟨⟨t62063,t62064,t62065,t62068,t62069⟩,A760,H⟩:=H
             try dsimp only at H
             have A76:=zk A760
             clear A760
             obtain ⟨y62070,hy62070⟩:∃ y_:List (S58),y_=(([(⟨t62055,t62056,t62057⟩:S58),(⟨t62063,t62064,t62065⟩:S58)]:List (S58))):=⟨_,rfl⟩
             replace H:(some (6,(⟨#[]⟩:ByteArray),y62070,t62068,t62069))=some (r1,r2,r3,r4,r5):=by first|(rw [hy62070];with_reducible exact H)|(have H2_:=(Option.bind_some _ _).symm.trans H;rw [hy62070];with_reducible exact H2_)|(have H2_:=(Option.bind_some _ _).symm.trans H;with_reducible exact H2_)|with_reducible exact H|(rw [hy62070];exact H)|exact H
             have Ny62070:=zk hy62070
             clear hy62070
             simp only [Option.some.injEq,Prod.mk.injEq] at H
             obtain ⟨rfl,rfl,rfl,rfl,rfl⟩:=H
             try go_wp2_with (first|((with_reducible refine gate_callee (f:=62) rfl ?_);refine goesL_ (some 68) rfl rfl Try.func62 (by kernel_rfl) rfl #[.pointer (some ⟨g,0,none⟩),.int .i64 (wrap64 (a1 - 1))] rfl za4 ?_;(with_reducible refine (ih kj71 za108 g s0_0 t62015 t62016 (wrap64 (a1 - 1)) t62055 t62056 t62057 t62060 t62061 w0 _ za11 za15 A75.out).mono ?_);rintro e w77 ⟨v62058,rfl,ho0,hi,hb,hk⟩;refine ⟨_,rfl,?_⟩;have HO62059:=zk (Kd.N_lower (Kd.N_mono (ok':=fun k_=>(w.heap.size≤k_)∧k_ ≠ gb62001∧k_ ≠ g) ho0 (fun k_ hk_=>⟨(Nat.le_trans (keep_size (w:=w) (g:=g) (row:=none) za10) hk_),(Kd.freshB (g:=gb62001) (o:=.cells #[.int .i64 0,.string (⟨#[]⟩:ByteArray),.slice none 0 0] 58 (0,0)) (za1 BK62001.out) k_ hk_),(IsS69.fresh za11 k_ hk_)⟩)) (keep_size (w:=w) (g:=g) (row:=none) za10));replace HB:=zk (hb);replace BK62001:=zk (KeepBut.blk hk (g':=gb62001) (o:=.cells #[.int .i64 0,.string (⟨#[]⟩:ByteArray),.slice none 0 0] 58 (0,0)) (za1 BK62001.out) NB62001_0.out (by simp));replace HK:=zk (KeepBut.trans za10 hk (.inl rfl));replace HI0:=zk (hi);(try clear hb);(try clear hb2);(try clear hk);(try clear hi);(try clear ho0))|((with_reducible refine gate_dst (N:=6) rfl ?_);refine zE (N:=6) (cs:=#[.int .i64 0,.string (⟨#[]⟩:ByteArray),.slice none 0 0]) (t:=58) ?_;intro gb62062 hg w78 hbox hb;replace HO62059:=zk (Kd.N_below (Kd.N_elderB (za2 HO62059.out) gb62062 (Nat.le_of_eq hg.symm)) hb);replace HB:=zk (below_step za15 hb);have BK62062:=zk (hbox);have GW62062:=zk ((by rw [hg];exact (keep_size (w:=w) (g:=g) (row:=none) za10):w.heap.size≤gb62062));have GE62062:=zk ((Nat.le_trans HW0.out (by rw [hg];exact (keep_size (w:=w) (g:=g) (row:=none) za10):w.heap.size≤gb62062):w0.heap.size≤gb62062));have NB62001_62062:=zk ((by rw [hg];exact Nat.ne_of_lt (zl BK62001.out):gb62001 ≠ gb62062));have NB62062_62001:=zk ((by rw [hg];exact Nat.ne_of_gt (zl BK62001.out):gb62062 ≠ gb62001));have NB0_62062:=zk ((by rw [hg];exact Nat.ne_of_lt (IsS69.lt (show IsS69 w0 _ g s0_0 t62060 t62061 from za11)):g ≠ gb62062));have NB62062_0:=zk ((by rw [hg];exact Nat.ne_of_gt (IsS69.lt (show IsS69 w0 _ g s0_0 t62060 t62061 from za11)):gb62062 ≠ g));replace BK62001:=zk (zb BK62001.out hb);replace HI0:=zk (IsS69.below za11 hb);replace HK:=zk (KeepBut.trans za10 (KeepBut.of_below hb g none) (.inl rfl));clear hb hbox hg;have hnb79:=NB62062_62001.out;have hnc79:=NB62001_62062.out;have hnb80:=NB62062_0.out;have hnc80:=NB0_62062.out;obtain ⟨hcz81_0,hcz81_1,hcz81_2,hfz81_0,hfz81_1,hfz81_2⟩:=blk3 BK62062.out;obtain ⟨Ao82,co82,eo82⟩:=Kd.N_slice HO62059.out;subst eo82))
             have n0_:Aside0 (Kd.N k58 58 (((w78.setCell ⟨gb62062,0,none⟩ (.int .i64 t62055)).setCell ⟨gb62062,1,none⟩ (.string t62056)).setCell ⟨gb62062,2,none⟩ (.slice Ao82 t62057.length co82)) w.heap.size (fun k_=>(w.heap.size≤k_)∧k_ ≠ gb62001∧k_ ≠ g∧k_ ≠ gb62062) (.slice Ao82 t62057.length co82) t62057):=⟨by (with_reducible repeat (first|apply Kd.N_alloc|apply Kd.N_drewN|apply Kd.N_drew));exact Kd.N_mono (zfN (zfN (zfN (Kd.N_mono HO62059.out (fun k_ hk=>(⟨hk,hk.2⟩:_∧k_ ≠ gb62062)))))) (fun _ hk=>⟨hk.1.1.1,⟨hk.1.1.2.1,⟨hk.1.1.2.2,hk.1.2⟩⟩⟩)⟩
             have n1_:Aside0 ((((w78.setCell ⟨gb62062,0,none⟩ (.int .i64 t62055)).setCell ⟨gb62062,1,none⟩ (.string t62056)).setCell ⟨gb62062,2,none⟩ (.slice Ao82 t62057.length co82)).heap[gb62001]? = some (.cells #[.int .i64 0,.string (⟨#[]⟩:ByteArray),.slice none 0 0] 58 (0,0))):=⟨by (with_reducible repeat (first|refine blk_drewN ?_ _|refine blk_drew ?_|refine blk_alloc ?_ _));refine blk_far ?_ NB62001_62062.out _;(with_reducible repeat (first|refine blk_drewN ?_ _|refine blk_drew ?_|refine blk_alloc ?_ _));refine blk_far ?_ NB62001_62062.out _;(with_reducible repeat (first|refine blk_drewN ?_ _|refine blk_drew ?_|refine blk_alloc ?_ _));refine blk_far ?_ NB62001_62062.out _;(with_reducible repeat (first|refine blk_drewN ?_ _|refine blk_drew ?_|refine blk_alloc ?_ _));exact BK62001.out⟩
             have n2_:Aside0 ((((w78.setCell ⟨gb62062,0,none⟩ (.int .i64 t62055)).setCell ⟨gb62062,1,none⟩ (.string t62056)).setCell ⟨gb62062,2,none⟩ (.slice Ao82 t62057.length co82)).heap[gb62062]? = some (.cells #[.int .i64 t62055,.string t62056,.slice Ao82 t62057.length co82] 58 (0,0))):=⟨zpu BK62062.out⟩
             have n3_:Aside0 (IsS69 w0 (((w78.setCell ⟨gb62062,0,none⟩ (.int .i64 t62055)).setCell ⟨gb62062,1,none⟩ (.string t62056)).setCell ⟨gb62062,2,none⟩ (.slice Ao82 t62057.length co82)) g s0_0 t62060 t62061):=⟨za58⟩
             have n4_:Aside0 (KeepBut w (((w78.setCell ⟨gb62062,0,none⟩ (.int .i64 t62055)).setCell ⟨gb62062,1,none⟩ (.string t62056)).setCell ⟨gb62062,2,none⟩ (.slice Ao82 t62057.length co82)) g none):=⟨za49⟩
             have n5_:Aside0 (Below w0.heap.size w0 (((w78.setCell ⟨gb62062,0,none⟩ (.int .i64 t62055)).setCell ⟨gb62062,1,none⟩ (.string t62056)).setCell ⟨gb62062,2,none⟩ (.slice Ao82 t62057.length co82))):=⟨za75⟩
             (try clear HO62059)
             (try clear BK62001)
             (try clear BK62062)
             (try clear HI0)
             (try clear HK)
             (try clear HB)
             generalize (((w78.setCell ⟨gb62062,0,none⟩ (.int .i64 t62055)).setCell ⟨gb62062,1,none⟩ (.string t62056)).setCell ⟨gb62062,2,none⟩ (.slice Ao82 t62057.length co82))=w83 at n0_ n1_ n2_ n3_ n4_ n5_ ⊢
             have HO62059:=n0_
             have BK62001:=n1_
             have BK62062:=n2_
             have HI0:=n3_
             have HK:=n4_
             have HB:=n5_
             clear n0_ n1_ n2_ n3_ n4_ n5_
             replace HO62059:=zk (Kd.N_drew HO62059.out)
             replace BK62001:=zk (blk_drew BK62001.out)
             replace BK62062:=zk (blk_drew BK62062.out)
             replace HI0:=zk (IsS69.drew HI0.out)
             replace HK:=zk (keep_drew HK.out)
             replace HB:=zk (below_drew1 HB.out)
             refine start_ (n:=8) (S:=fun w'=>w'.cell? ⟨gb62062,0,none⟩=some (.int .i64 t62055)∧w'.cell? ⟨gb62062,1,none⟩=some (.string t62056)∧w'.cell? ⟨gb62062,2,none⟩=some (.slice Ao82 t62057.length co82)) (ds:=[]) #[false,false,false,false,false,false,false,false] (by kernel_rfl) rfl rfl ⟨(blk_cell BK62062.out 0).trans rfl,(blk_cell BK62062.out 1).trans rfl,(blk_cell BK62062.out 2).trans rfl⟩ (fun hHeld=>?_);refine with_tabW spec_l3Draw.tab23 spec_l3Draw.bits23 (fun HT_ HW_=>?_)
             generalize w83.drew=w84 at HO62059 BK62001 BK62062 HI0 HK HB hHeld ⊢
             refine zy 1 (some 70) HT_.out ?_
             refine zy 2 (some 71) HT_.out ?_
             refine zy 3 (some 72) HT_.out ?_
             refine ztk 0 (some 69) HT_.out HW_.out hHeld ?_
             refine zon 4 (some 73) HT_.out (fun K hK=>?_)
             refine goes_ Try.func62 (by kernel_rfl) rfl #[.pointer (some ⟨g,0,none⟩),.int .i64 (wrap64 (a1 - 1))] (by rfl) rfl rfl za4 ?_
             with_reducible refine (ih kj71 za108 g s0_0 t62060 t62061 (wrap64 (a1 - 1)) t62063 t62064 t62065 t62068 t62069 w0 _ za58 za75 A76.out).mono ?_
             rintro e w85 ⟨v62066,rfl,ho0,hi,hb,hk⟩
             refine ⟨_,rfl,?_⟩
             have HO62067:=zk (Kd.N_lower (Kd.N_mono (ok':=fun k_=>(w.heap.size≤k_)∧some k_ ≠ (.slice Ao82 t62057.length co82:Value).ownBlock∧k_ ≠ gb62001∧k_ ≠ gb62062∧k_ ≠ g) ho0 (fun k_ hk_=>⟨(Nat.le_trans (keep_size (w:=w) (g:=g) (row:=none) za49) hk_),(Kd.fresh' (Kd.N_lt (za2 HO62059.out)) k_ hk_),(Kd.freshB (g:=gb62001) (o:=.cells #[.int .i64 0,.string (⟨#[]⟩:ByteArray),.slice none 0 0] 58 (0,0)) (za1 BK62001.out) k_ hk_),(Kd.freshB (g:=gb62062) (o:=.cells #[.int .i64 t62055,.string t62056,.slice Ao82 t62057.length co82] 58 (0,0)) (za1 BK62062.out) k_ hk_),(IsS69.fresh za58 k_ hk_)⟩)) (keep_size (w:=w) (g:=g) (row:=none) za49))
             replace HB:=zk (hb)
             replace BK62001:=zk (KeepBut.blk hk (g':=gb62001) (o:=.cells #[.int .i64 0,.string (⟨#[]⟩:ByteArray),.slice none 0 0] 58 (0,0)) (za1 BK62001.out) NB62001_0.out (by simp))
             replace HO62059:=zk (Kd.N_mono (Kd.N_told (Kd.N_oldK (Kd.N_mono (ok:=fun k_=>(((w.heap.size≤k_))∧(k_ ≠ gb62001∧(k_ ≠ g∧k_ ≠ gb62062)))) (za2 HO62059.out) (fun k_ hk_=>(⟨hk_,hk_.2.2.1⟩:_∧k_ ≠ g))) hk) (Kd.N_base ho0)) (fun _ h_=>h_.1))
             replace BK62062:=zk (KeepBut.blk hk (g':=gb62062) (o:=.cells #[.int .i64 t62055,.string t62056,.slice Ao82 t62057.length co82] 58 (0,0)) (za1 BK62062.out) NB62062_0.out (by simp))
             replace HK:=zk (KeepBut.trans za49 hk (.inl rfl))
             replace HI0:=zk (hi)
             (try clear hb)
             (try clear hb2)
             (try clear hk)
             (try clear hi)
             (try clear ho0)
             obtain ⟨Ao86,co86,eo86⟩:=Kd.N_slice HO62067.out
             (first|subst eo86|(injection eo86 with f1_ f2_ f3_;have f4_:=f1_.symm;have f5_:=f3_.symm;clear f1_ f2_ f3_;subst f4_;subst f5_))
             refine hK.out _ _ ⟨(blk_cell BK62062.out 0).trans rfl,(blk_cell BK62062.out 1).trans rfl,(blk_cell BK62062.out 2).trans rfl⟩ (fun hHeld=>?_)
             clear hK K
             refine zno (some 73) ?_
             refine zon 5 (some 74) HT_.out (fun K hK=>?_)
             refine Kd.N_lit_step k58 _ 58 ?hg (N':=74) ?hd (xs:=([(⟨t62055,t62056,t62057⟩:S58),(⟨t62063,t62064,t62065⟩:S58)]:List (S58))) (inner:=[.int .i64 t62055,.string t62056,.slice Ao82 t62057.length co82,.int .i64 t62063,.string t62064,.slice Ao86 t62065.length co86]) (ok:=(fun k_=>(w.heap.size≤k_)∧k_ ≠ gb62001∧k_ ≠ gb62062∧k_ ≠ g)) (okp:=(fun k_=>(w.heap.size≤k_)∧k_ ≠ gb62001∧k_ ≠ gb62062∧k_ ≠ g)) ?hr ?hp (fun _ hk=>hk) ((show ∀ k_,w85.heap.size≤k_→(fun k_=>(w.heap.size≤k_)∧k_ ≠ gb62001∧k_ ≠ gb62062∧k_ ≠ g) k_ from fun k_ hk=>⟨(Nat.le_trans (keep_size (w:=w) (g:=g) (row:=none) za49) hk),Kd.freshB (g:=gb62001) (o:=.cells #[.int .i64 0,.string (⟨#[]⟩:ByteArray),.slice none 0 0] 58 (0,0)) (za1 BK62001.out) k_ hk,Kd.freshB (g:=gb62062) (o:=.cells #[.int .i64 t62055,.string t62056,.slice Ao82 t62057.length co82] 58 (0,0)) (za1 BK62062.out) k_ hk,IsS69.fresh za58 k_ hk⟩) _ (Nat.le_refl _)) (Below.refl _ _) (Nat.le_refl _) (by simp) ?_;(case hd=>rfl);(case hg=>rfl);(case hr=>first|(go_simp;done)|(go_simp;rfl));(case hp=>exact (Reps.c3 (show Kd.FK k58 _ _ (⟨t62055,t62056,t62057⟩:S58) [.int .i64 t62055,.string t62056,.slice Ao82 t62057.length co82] from (k58_mkF _ _ (⟨t62055,t62056,t62057⟩:S58) (Kd.N_reads' (Kd.N_mono (ok':=(fun k_=>(w.heap.size≤k_)∧k_ ≠ gb62001∧k_ ≠ gb62062∧k_ ≠ g)) (HO62059.out) (fun k_ hk=>⟨hk.1.1,⟨hk.1.2.1,⟨hk.1.2.2.2,hk.1.2.2.1⟩⟩⟩))).2.1 (Kd.N_F (Kd.N_mono (ok':=(fun k_=>(w.heap.size≤k_)∧k_ ≠ gb62001∧k_ ≠ gb62062∧k_ ≠ g)) (HO62059.out) (fun k_ hk=>⟨hk.1.1,⟨hk.1.2.1,⟨hk.1.2.2.2,hk.1.2.2.1⟩⟩⟩))))) (Reps.c3 (show Kd.FK k58 _ _ (⟨t62063,t62064,t62065⟩:S58) [.int .i64 t62063,.string t62064,.slice Ao86 t62065.length co86] from (k58_mkF _ _ (⟨t62063,t62064,t62065⟩:S58) (Kd.N_reads' (Kd.N_mono (ok':=(fun k_=>(w.heap.size≤k_)∧k_ ≠ gb62001∧k_ ≠ gb62062∧k_ ≠ g)) (HO62067.out) (fun k_ hk=>⟨hk.1,⟨hk.2.2.1,⟨hk.2.2.2.1,hk.2.2.2.2⟩⟩⟩))).2.1 (Kd.N_F (Kd.N_mono (ok':=(fun k_=>(w.heap.size≤k_)∧k_ ≠ gb62001∧k_ ≠ gb62062∧k_ ≠ g)) (HO62067.out) (fun k_ hk=>⟨hk.1,⟨hk.2.2.1,⟨hk.2.2.2.1,hk.2.2.2.2⟩⟩⟩))))) (Reps.none _ _))))
             intro v62071 w87 ho88 hb hg_ hnew_
             clear hg_ hnew_
             (first|rw [← Ny62070.out] at ho88|(simp only [Int.reduceToNat] at ho88;rw [← Ny62070.out] at ho88))
             have HO62072:=zk (Kd.N_lower ho88 (keep_size (w:=w) (g:=g) (row:=none) za49))
             replace BK62001:=zk (zb BK62001.out hb)
             replace BK62062:=zk (zb BK62062.out hb)
             replace HB:=zk (below_step za75 hb)
             replace HI0:=zk (IsS69.below za58 hb)
             replace HK:=zk (KeepBut.trans za49 (KeepBut.of_below hb g none) (.inl rfl))
             clear HO62059
             clear HO62067
             clear hb ho88
             obtain ⟨Ao89,co89,eo89⟩:=Kd.N_slice HO62072.out
             (first|subst eo89|(injection eo89 with f1_ f2_ f3_;have f4_:=f1_.symm;have f5_:=f3_.symm;clear f1_ f2_ f3_;subst f4_;subst f5_))
             refine hK.out _ _ ⟨(blk_cell BK62062.out 0).trans rfl,(blk_cell BK62062.out 1).trans rfl,(blk_cell BK62062.out 2).trans rfl⟩ (fun hHeld=>?_)
             clear hK K
             refine zno (some 74) ?_
             refine zy 6 (some 75) HT_.out ?_
             refine zon 7 none HT_.out (fun K hK=>?_)
             have hs90:w87.cell? ⟨gb62001,0,none⟩=some (.int .i64 0):=(blk_cell BK62001.out 0).trans rfl
             have hfs90:=blk_frozen BK62001.out 0
             have hns90_1:=NB62062_62001.out
             have hms90_1:=NB62001_62062.out
             have hs91:w87.cell? ⟨gb62001,1,none⟩=some (.string (⟨#[]⟩:ByteArray)):=(blk_cell BK62001.out 1).trans rfl
             have hfs91:=blk_frozen BK62001.out 1
             have hns91_1:=NB62062_62001.out
             have hms91_1:=NB62001_62062.out
             have hs92:w87.cell? ⟨gb62001,2,none⟩=some (.slice none 0 0):=(blk_cell BK62001.out 2).trans rfl
             have hfs92:=blk_frozen BK62001.out 2
             have hns92_1:=NB62062_62001.out
             have hms92_1:=NB62001_62062.out
             refine skip_ (w1:=?_) (by rfl) rfl ?_ ?_
             rotate_left
             ·go_simp
              rfl
             refine hK.out _ _ ⟨((cell_far (p:=⟨gb62001,_,none⟩) NB62062_62001.out _).trans (((cell_far (p:=⟨gb62001,_,none⟩) NB62062_62001.out _).trans (((cell_far (p:=⟨gb62001,_,none⟩) NB62062_62001.out _).trans (hHeld.1)))))),((cell_far (p:=⟨gb62001,_,none⟩) NB62062_62001.out _).trans (((cell_far (p:=⟨gb62001,_,none⟩) NB62062_62001.out _).trans (((cell_far (p:=⟨gb62001,_,none⟩) NB62062_62001.out _).trans (hHeld.2.1)))))),((cell_far (p:=⟨gb62001,_,none⟩) NB62062_62001.out _).trans (((cell_far (p:=⟨gb62001,_,none⟩) NB62062_62001.out _).trans (((cell_far (p:=⟨gb62001,_,none⟩) NB62062_62001.out _).trans (hHeld.2.2))))))⟩ (fun hHeld=>?_)
             clear hK K
             refine done_ (done_of HT_.out (by kernel_rfl)) ?_
             try go_wp2
             refine bodyPost_ret (results_cell_row rfl _ _ gb62001 58 #[.int .i64 6,.string (⟨#[]⟩:ByteArray),.slice Ao89 y62070.length co89] (0,0) _ rfl (zpu BK62001.out) Try.underlying58 rfl (by kernel_rfl)) rfl ?_
             exact ⟨_,za9,by (with_reducible repeat (first|apply Kd.N_alloc|apply Kd.N_drewN|apply Kd.N_drew));exact Kd.N_mono (zfN (zfN (zfN (Kd.N_mono HO62072.out (fun k_ hk=>(⟨hk,hk.2.1⟩:_∧k_ ≠ gb62001)))))) (fun _ hk=>hk.1.1),za58,za75,za49⟩
           · replace c74:=Bool.eq_false_iff.mpr c74
             subst c74
             rw [if_neg (show ¬ (false=true) by decide)] at H
             try dsimp only at H
             replace H:=zo H
             obtain ⟨⟨t62073,t62074,t62075,t62078,t62079⟩,A930,H⟩:=H
             try dsimp only at H
             have A93:=zk A930
             clear A930
             replace H:=zo H
             obtain ⟨⟨t62081,t62082,t62083,t62086,t62087⟩,A940,H⟩:=H
             try dsimp only at H
             have A94:=zk A940
             clear A940
             obtain ⟨y62088,hy62088⟩:∃ y_:List (S58),y_=(([(⟨t62073,t62074,t62075⟩:S58),(⟨t62081,t62082,t62083⟩:S58)]:List (S58))):=⟨_,rfl⟩
             replace H:(some (5,(⟨#[]⟩:ByteArray),y62088,t62086,t62087))=some (r1,r2,r3,r4,r5):=by first|(rw [hy62088];with_reducible exact H)|(have H2_:=(Option.bind_some _ _).symm.trans H;rw [hy62088];with_reducible exact H2_)|(have H2_:=(Option.bind_some _ _).symm.trans H;with_reducible exact H2_)|with_reducible exact H|(rw [hy62088];exact H)|exact H
             have Ny62088:=zk hy62088
             clear hy62088
             simp only [Option.some.injEq,Prod.mk.injEq] at H
             obtain ⟨rfl,rfl,rfl,rfl,rfl⟩:=H
             try go_wp2_with (first|((with_reducible refine gate_callee (f:=62) rfl ?_);refine goesL_ (some 79) rfl rfl Try.func62 (by kernel_rfl) rfl #[.pointer (some ⟨g,0,none⟩),.int .i64 (wrap64 (a1 - 1))] rfl za4 ?_;(with_reducible refine (ih kj71 za108 g s0_0 t62015 t62016 (wrap64 (a1 - 1)) t62073 t62074 t62075 t62078 t62079 w0 _ za11 za15 A93.out).mono ?_);rintro e w95 ⟨v62076,rfl,ho0,hi,hb,hk⟩;refine ⟨_,rfl,?_⟩;have HO62077:=zk (Kd.N_lower (Kd.N_mono (ok':=fun k_=>(w.heap.size≤k_)∧k_ ≠ gb62001∧k_ ≠ g) ho0 (fun k_ hk_=>⟨(Nat.le_trans (keep_size (w:=w) (g:=g) (row:=none) za10) hk_),(Kd.freshB (g:=gb62001) (o:=.cells #[.int .i64 0,.string (⟨#[]⟩:ByteArray),.slice none 0 0] 58 (0,0)) (za1 BK62001.out) k_ hk_),(IsS69.fresh za11 k_ hk_)⟩)) (keep_size (w:=w) (g:=g) (row:=none) za10));replace HB:=zk (hb);replace BK62001:=zk (KeepBut.blk hk (g':=gb62001) (o:=.cells #[.int .i64 0,.string (⟨#[]⟩:ByteArray),.slice none 0 0] 58 (0,0)) (za1 BK62001.out) NB62001_0.out (by simp));replace HK:=zk (KeepBut.trans za10 hk (.inl rfl));replace HI0:=zk (hi);(try clear hb);(try clear hb2);(try clear hk);(try clear hi);(try clear ho0))|((with_reducible refine gate_dst (N:=7) rfl ?_);refine zE (N:=7) (cs:=#[.int .i64 0,.string (⟨#[]⟩:ByteArray),.slice none 0 0]) (t:=58) ?_;intro gb62080 hg w96 hbox hb;replace HO62077:=zk (Kd.N_below (Kd.N_elderB (za2 HO62077.out) gb62080 (Nat.le_of_eq hg.symm)) hb);replace HB:=zk (below_step za15 hb);have BK62080:=zk (hbox);have GW62080:=zk ((by rw [hg];exact (keep_size (w:=w) (g:=g) (row:=none) za10):w.heap.size≤gb62080));have GE62080:=zk ((Nat.le_trans HW0.out (by rw [hg];exact (keep_size (w:=w) (g:=g) (row:=none) za10):w.heap.size≤gb62080):w0.heap.size≤gb62080));have NB62001_62080:=zk ((by rw [hg];exact Nat.ne_of_lt (zl BK62001.out):gb62001 ≠ gb62080));have NB62080_62001:=zk ((by rw [hg];exact Nat.ne_of_gt (zl BK62001.out):gb62080 ≠ gb62001));have NB0_62080:=zk ((by rw [hg];exact Nat.ne_of_lt (IsS69.lt (show IsS69 w0 _ g s0_0 t62078 t62079 from za11)):g ≠ gb62080));have NB62080_0:=zk ((by rw [hg];exact Nat.ne_of_gt (IsS69.lt (show IsS69 w0 _ g s0_0 t62078 t62079 from za11)):gb62080 ≠ g));replace BK62001:=zk (zb BK62001.out hb);replace HI0:=zk (IsS69.below za11 hb);replace HK:=zk (KeepBut.trans za10 (KeepBut.of_below hb g none) (.inl rfl));clear hb hbox hg;have hnb97:=NB62080_62001.out;have hnc97:=NB62001_62080.out;have hnb98:=NB62080_0.out;have hnc98:=NB0_62080.out;obtain ⟨hcz99_0,hcz99_1,hcz99_2,hfz99_0,hfz99_1,hfz99_2⟩:=blk3 BK62080.out;obtain ⟨Ao100,co100,eo100⟩:=Kd.N_slice HO62077.out;subst eo100))
             have n0_:Aside0 (Kd.N k58 58 (((w96.setCell ⟨gb62080,0,none⟩ (.int .i64 t62073)).setCell ⟨gb62080,1,none⟩ (.string t62074)).setCell ⟨gb62080,2,none⟩ (.slice Ao100 t62075.length co100)) w.heap.size (fun k_=>(w.heap.size≤k_)∧k_ ≠ gb62001∧k_ ≠ g∧k_ ≠ gb62080) (.slice Ao100 t62075.length co100) t62075):=⟨by (with_reducible repeat (first|apply Kd.N_alloc|apply Kd.N_drewN|apply Kd.N_drew));exact Kd.N_mono (zfN (zfN (zfN (Kd.N_mono HO62077.out (fun k_ hk=>(⟨hk,hk.2⟩:_∧k_ ≠ gb62080)))))) (fun _ hk=>⟨hk.1.1.1,⟨hk.1.1.2.1,⟨hk.1.1.2.2,hk.1.2⟩⟩⟩)⟩
             have n1_:Aside0 ((((w96.setCell ⟨gb62080,0,none⟩ (.int .i64 t62073)).setCell ⟨gb62080,1,none⟩ (.string t62074)).setCell ⟨gb62080,2,none⟩ (.slice Ao100 t62075.length co100)).heap[gb62001]? = some (.cells #[.int .i64 0,.string (⟨#[]⟩:ByteArray),.slice none 0 0] 58 (0,0))):=⟨by (with_reducible repeat (first|refine blk_drewN ?_ _|refine blk_drew ?_|refine blk_alloc ?_ _));refine blk_far ?_ NB62001_62080.out _;(with_reducible repeat (first|refine blk_drewN ?_ _|refine blk_drew ?_|refine blk_alloc ?_ _));refine blk_far ?_ NB62001_62080.out _;(with_reducible repeat (first|refine blk_drewN ?_ _|refine blk_drew ?_|refine blk_alloc ?_ _));refine blk_far ?_ NB62001_62080.out _;(with_reducible repeat (first|refine blk_drewN ?_ _|refine blk_drew ?_|refine blk_alloc ?_ _));exact BK62001.out⟩
             have n2_:Aside0 ((((w96.setCell ⟨gb62080,0,none⟩ (.int .i64 t62073)).setCell ⟨gb62080,1,none⟩ (.string t62074)).setCell ⟨gb62080,2,none⟩ (.slice Ao100 t62075.length co100)).heap[gb62080]? = some (.cells #[.int .i64 t62073,.string t62074,.slice Ao100 t62075.length co100] 58 (0,0))):=⟨zpu BK62080.out⟩
             have n3_:Aside0 (IsS69 w0 (((w96.setCell ⟨gb62080,0,none⟩ (.int .i64 t62073)).setCell ⟨gb62080,1,none⟩ (.string t62074)).setCell ⟨gb62080,2,none⟩ (.slice Ao100 t62075.length co100)) g s0_0 t62078 t62079):=⟨za57⟩
             have n4_:Aside0 (KeepBut w (((w96.setCell ⟨gb62080,0,none⟩ (.int .i64 t62073)).setCell ⟨gb62080,1,none⟩ (.string t62074)).setCell ⟨gb62080,2,none⟩ (.slice Ao100 t62075.length co100)) g none):=⟨za48⟩
             have n5_:Aside0 (Below w0.heap.size w0 (((w96.setCell ⟨gb62080,0,none⟩ (.int .i64 t62073)).setCell ⟨gb62080,1,none⟩ (.string t62074)).setCell ⟨gb62080,2,none⟩ (.slice Ao100 t62075.length co100))):=⟨za74⟩
             (try clear HO62077)
             (try clear BK62001)
             (try clear BK62080)
             (try clear HI0)
             (try clear HK)
             (try clear HB)
             generalize (((w96.setCell ⟨gb62080,0,none⟩ (.int .i64 t62073)).setCell ⟨gb62080,1,none⟩ (.string t62074)).setCell ⟨gb62080,2,none⟩ (.slice Ao100 t62075.length co100))=w101 at n0_ n1_ n2_ n3_ n4_ n5_ ⊢
             have HO62077:=n0_
             have BK62001:=n1_
             have BK62080:=n2_
             have HI0:=n3_
             have HK:=n4_
             have HB:=n5_
             clear n0_ n1_ n2_ n3_ n4_ n5_
             replace HO62077:=zk (Kd.N_drew HO62077.out)
             replace BK62001:=zk (blk_drew BK62001.out)
             replace BK62080:=zk (blk_drew BK62080.out)
             replace HI0:=zk (IsS69.drew HI0.out)
             replace HK:=zk (keep_drew HK.out)
             replace HB:=zk (below_drew1 HB.out)
             refine start_ (n:=8) (S:=fun w'=>w'.cell? ⟨gb62080,0,none⟩=some (.int .i64 t62073)∧w'.cell? ⟨gb62080,1,none⟩=some (.string t62074)∧w'.cell? ⟨gb62080,2,none⟩=some (.slice Ao100 t62075.length co100)) (ds:=[]) #[false,false,false,false,false,false,false,false] (by kernel_rfl) rfl rfl ⟨(blk_cell BK62080.out 0).trans rfl,(blk_cell BK62080.out 1).trans rfl,(blk_cell BK62080.out 2).trans rfl⟩ (fun hHeld=>?_);refine with_tabW spec_l3Draw.tab25 spec_l3Draw.bits25 (fun HT_ HW_=>?_)
             generalize w101.drew=w102 at HO62077 BK62001 BK62080 HI0 HK HB hHeld ⊢
             refine zy 1 (some 81) HT_.out ?_
             refine zy 2 (some 82) HT_.out ?_
             refine zy 3 (some 83) HT_.out ?_
             refine ztk 0 (some 80) HT_.out HW_.out hHeld ?_
             refine zon 4 (some 84) HT_.out (fun K hK=>?_)
             refine goes_ Try.func62 (by kernel_rfl) rfl #[.pointer (some ⟨g,0,none⟩),.int .i64 (wrap64 (a1 - 1))] (by rfl) rfl rfl za4 ?_
             with_reducible refine (ih kj71 za108 g s0_0 t62078 t62079 (wrap64 (a1 - 1)) t62081 t62082 t62083 t62086 t62087 w0 _ za57 za74 A94.out).mono ?_
             rintro e w103 ⟨v62084,rfl,ho0,hi,hb,hk⟩
             refine ⟨_,rfl,?_⟩
             have HO62085:=zk (Kd.N_lower (Kd.N_mono (ok':=fun k_=>(w.heap.size≤k_)∧some k_ ≠ (.slice Ao100 t62075.length co100:Value).ownBlock∧k_ ≠ gb62001∧k_ ≠ gb62080∧k_ ≠ g) ho0 (fun k_ hk_=>⟨(Nat.le_trans (keep_size (w:=w) (g:=g) (row:=none) za48) hk_),(Kd.fresh' (Kd.N_lt (za2 HO62077.out)) k_ hk_),(Kd.freshB (g:=gb62001) (o:=.cells #[.int .i64 0,.string (⟨#[]⟩:ByteArray),.slice none 0 0] 58 (0,0)) (za1 BK62001.out) k_ hk_),(Kd.freshB (g:=gb62080) (o:=.cells #[.int .i64 t62073,.string t62074,.slice Ao100 t62075.length co100] 58 (0,0)) (za1 BK62080.out) k_ hk_),(IsS69.fresh za57 k_ hk_)⟩)) (keep_size (w:=w) (g:=g) (row:=none) za48))
             replace HB:=zk (hb)
             replace BK62001:=zk (KeepBut.blk hk (g':=gb62001) (o:=.cells #[.int .i64 0,.string (⟨#[]⟩:ByteArray),.slice none 0 0] 58 (0,0)) (za1 BK62001.out) NB62001_0.out (by simp))
             replace HO62077:=zk (Kd.N_mono (Kd.N_told (Kd.N_oldK (Kd.N_mono (ok:=fun k_=>(((w.heap.size≤k_))∧(k_ ≠ gb62001∧(k_ ≠ g∧k_ ≠ gb62080)))) (za2 HO62077.out) (fun k_ hk_=>(⟨hk_,hk_.2.2.1⟩:_∧k_ ≠ g))) hk) (Kd.N_base ho0)) (fun _ h_=>h_.1))
             replace BK62080:=zk (KeepBut.blk hk (g':=gb62080) (o:=.cells #[.int .i64 t62073,.string t62074,.slice Ao100 t62075.length co100] 58 (0,0)) (za1 BK62080.out) NB62080_0.out (by simp))
             replace HK:=zk (KeepBut.trans za48 hk (.inl rfl))
             replace HI0:=zk (hi)
             (try clear hb)
             (try clear hb2)
             (try clear hk)
             (try clear hi)
             (try clear ho0)
             obtain ⟨Ao104,co104,eo104⟩:=Kd.N_slice HO62085.out
             (first|subst eo104|(injection eo104 with f1_ f2_ f3_;have f4_:=f1_.symm;have f5_:=f3_.symm;clear f1_ f2_ f3_;subst f4_;subst f5_))
             refine hK.out _ _ ⟨(blk_cell BK62080.out 0).trans rfl,(blk_cell BK62080.out 1).trans rfl,(blk_cell BK62080.out 2).trans rfl⟩ (fun hHeld=>?_)
             clear hK K
             refine zno (some 84) ?_
             refine zon 5 (some 85) HT_.out (fun K hK=>?_)
             refine Kd.N_lit_step k58 _ 58 ?hg (N':=85) ?hd (xs:=([(⟨t62073,t62074,t62075⟩:S58),(⟨t62081,t62082,t62083⟩:S58)]:List (S58))) (inner:=[.int .i64 t62073,.string t62074,.slice Ao100 t62075.length co100,.int .i64 t62081,.string t62082,.slice Ao104 t62083.length co104]) (ok:=(fun k_=>(w.heap.size≤k_)∧k_ ≠ gb62001∧k_ ≠ gb62080∧k_ ≠ g)) (okp:=(fun k_=>(w.heap.size≤k_)∧k_ ≠ gb62001∧k_ ≠ gb62080∧k_ ≠ g)) ?hr ?hp (fun _ hk=>hk) ((show ∀ k_,w103.heap.size≤k_→(fun k_=>(w.heap.size≤k_)∧k_ ≠ gb62001∧k_ ≠ gb62080∧k_ ≠ g) k_ from fun k_ hk=>⟨(Nat.le_trans (keep_size (w:=w) (g:=g) (row:=none) za48) hk),Kd.freshB (g:=gb62001) (o:=.cells #[.int .i64 0,.string (⟨#[]⟩:ByteArray),.slice none 0 0] 58 (0,0)) (za1 BK62001.out) k_ hk,Kd.freshB (g:=gb62080) (o:=.cells #[.int .i64 t62073,.string t62074,.slice Ao100 t62075.length co100] 58 (0,0)) (za1 BK62080.out) k_ hk,IsS69.fresh za57 k_ hk⟩) _ (Nat.le_refl _)) (Below.refl _ _) (Nat.le_refl _) (by simp) ?_;(case hd=>rfl);(case hg=>rfl);(case hr=>first|(go_simp;done)|(go_simp;rfl));(case hp=>exact (Reps.c3 (show Kd.FK k58 _ _ (⟨t62073,t62074,t62075⟩:S58) [.int .i64 t62073,.string t62074,.slice Ao100 t62075.length co100] from (k58_mkF _ _ (⟨t62073,t62074,t62075⟩:S58) (Kd.N_reads' (Kd.N_mono (ok':=(fun k_=>(w.heap.size≤k_)∧k_ ≠ gb62001∧k_ ≠ gb62080∧k_ ≠ g)) (HO62077.out) (fun k_ hk=>⟨hk.1.1,⟨hk.1.2.1,⟨hk.1.2.2.2,hk.1.2.2.1⟩⟩⟩))).2.1 (Kd.N_F (Kd.N_mono (ok':=(fun k_=>(w.heap.size≤k_)∧k_ ≠ gb62001∧k_ ≠ gb62080∧k_ ≠ g)) (HO62077.out) (fun k_ hk=>⟨hk.1.1,⟨hk.1.2.1,⟨hk.1.2.2.2,hk.1.2.2.1⟩⟩⟩))))) (Reps.c3 (show Kd.FK k58 _ _ (⟨t62081,t62082,t62083⟩:S58) [.int .i64 t62081,.string t62082,.slice Ao104 t62083.length co104] from (k58_mkF _ _ (⟨t62081,t62082,t62083⟩:S58) (Kd.N_reads' (Kd.N_mono (ok':=(fun k_=>(w.heap.size≤k_)∧k_ ≠ gb62001∧k_ ≠ gb62080∧k_ ≠ g)) (HO62085.out) (fun k_ hk=>⟨hk.1,⟨hk.2.2.1,⟨hk.2.2.2.1,hk.2.2.2.2⟩⟩⟩))).2.1 (Kd.N_F (Kd.N_mono (ok':=(fun k_=>(w.heap.size≤k_)∧k_ ≠ gb62001∧k_ ≠ gb62080∧k_ ≠ g)) (HO62085.out) (fun k_ hk=>⟨hk.1,⟨hk.2.2.1,⟨hk.2.2.2.1,hk.2.2.2.2⟩⟩⟩))))) (Reps.none _ _))))
             intro v62089 w105 ho106 hb hg_ hnew_
             clear hg_ hnew_
             (first|rw [← Ny62088.out] at ho106|(simp only [Int.reduceToNat] at ho106;rw [← Ny62088.out] at ho106))
             have HO62090:=zk (Kd.N_lower ho106 (keep_size (w:=w) (g:=g) (row:=none) za48))
             replace BK62001:=zk (zb BK62001.out hb)
             replace BK62080:=zk (zb BK62080.out hb)
             replace HB:=zk (below_step za74 hb)
             replace HI0:=zk (IsS69.below za57 hb)
             replace HK:=zk (KeepBut.trans za48 (KeepBut.of_below hb g none) (.inl rfl))
             clear HO62077
             clear HO62085
             clear hb ho106
             obtain ⟨Ao107,co107,eo107⟩:=Kd.N_slice HO62090.out
             (first|subst eo107|(injection eo107 with f1_ f2_ f3_;have f4_:=f1_.symm;have f5_:=f3_.symm;clear f1_ f2_ f3_;subst f4_;subst f5_))
             refine hK.out _ _ ⟨(blk_cell BK62080.out 0).trans rfl,(blk_cell BK62080.out 1).trans rfl,(blk_cell BK62080.out 2).trans rfl⟩ (fun hHeld=>?_)
             clear hK K
             refine zno (some 85) ?_
             refine zy 6 (some 86) HT_.out ?_
             refine zon 7 none HT_.out (fun K hK=>?_)
             have hs108:w105.cell? ⟨gb62001,0,none⟩=some (.int .i64 0):=(blk_cell BK62001.out 0).trans rfl
             have hfs108:=blk_frozen BK62001.out 0
             have hns108_1:=NB62080_62001.out
             have hms108_1:=NB62001_62080.out
             have hs109:w105.cell? ⟨gb62001,1,none⟩=some (.string (⟨#[]⟩:ByteArray)):=(blk_cell BK62001.out 1).trans rfl
             have hfs109:=blk_frozen BK62001.out 1
             have hns109_1:=NB62080_62001.out
             have hms109_1:=NB62001_62080.out
             have hs110:w105.cell? ⟨gb62001,2,none⟩=some (.slice none 0 0):=(blk_cell BK62001.out 2).trans rfl
             have hfs110:=blk_frozen BK62001.out 2
             have hns110_1:=NB62080_62001.out
             have hms110_1:=NB62001_62080.out
             refine skip_ (w1:=?_) (by rfl) rfl ?_ ?_
             rotate_left
             ·go_simp
              rfl
             refine hK.out _ _ ⟨((cell_far (p:=⟨gb62001,_,none⟩) NB62080_62001.out _).trans (((cell_far (p:=⟨gb62001,_,none⟩) NB62080_62001.out _).trans (((cell_far (p:=⟨gb62001,_,none⟩) NB62080_62001.out _).trans (hHeld.1)))))),((cell_far (p:=⟨gb62001,_,none⟩) NB62080_62001.out _).trans (((cell_far (p:=⟨gb62001,_,none⟩) NB62080_62001.out _).trans (((cell_far (p:=⟨gb62001,_,none⟩) NB62080_62001.out _).trans (hHeld.2.1)))))),((cell_far (p:=⟨gb62001,_,none⟩) NB62080_62001.out _).trans (((cell_far (p:=⟨gb62001,_,none⟩) NB62080_62001.out _).trans (((cell_far (p:=⟨gb62001,_,none⟩) NB62080_62001.out _).trans (hHeld.2.2))))))⟩ (fun hHeld=>?_)
             clear hK K
             refine done_ (done_of HT_.out (by kernel_rfl)) ?_
             try go_wp2
             refine bodyPost_ret (results_cell_row rfl _ _ gb62001 58 #[.int .i64 5,.string (⟨#[]⟩:ByteArray),.slice Ao107 y62088.length co107] (0,0) _ rfl (zpu BK62001.out) Try.underlying58 rfl (by kernel_rfl)) rfl ?_
             exact ⟨_,za9,by (with_reducible repeat (first|apply Kd.N_alloc|apply Kd.N_drewN|apply Kd.N_drew));exact Kd.N_mono (zfN (zfN (zfN (Kd.N_mono HO62090.out (fun k_ hk=>(⟨hk,hk.2.1⟩:_∧k_ ≠ gb62001)))))) (fun _ hk=>hk.1.1),za57,za74,za48⟩
   all_goals
    simp only [Option.some.injEq,Prod.mk.injEq] at H
    obtain ⟨rfl,rfl,rfl,rfl,rfl⟩:=H
    go_wp2_with (first|((with_reducible refine gate_callee (f:=42) rfl ?_);refine goesL_ (some 15) rfl rfl Try.func42 (by kernel_rfl) rfl #[.pointer (some ⟨g,0,none⟩),.int .i64 8] rfl za4 ?_;(with_reducible refine (spec_l1Below.calls g s0_0 x1001_2 x1002_2 8 t62005 t62006 t62007 w0 _ za11 za15 A9.out).mono ?_);rintro e w11 ⟨rfl,hi,hb,hk⟩;refine ⟨_,rfl,?_⟩;replace BK62001:=zk (KeepBut.blk hk (g':=gb62001) (o:=.cells #[.int .i64 0,.string (⟨#[]⟩:ByteArray),.slice none 0 0] 58 (0,0)) (za1 BK62001.out) NB62001_0.out (by simp));replace HK:=zk (KeepBut.trans za10 hk (.inl rfl));replace HB:=zk (hb);replace HI0:=zk (hi);(try clear hb);(try clear hb2);(try clear hk);(try clear hi);have hnb12:=NB62001_0.out;have hnc12:=NB0_62001.out;obtain ⟨hcz13_0,hcz13_1,hcz13_2,hfz13_0,hfz13_1,hfz13_2⟩:=blk3 BK62001.out)|((with_reducible refine gate_dst (N:=26) rfl ?_);refine Kd.R_lit Kd.string _ 9 ?hg (N:=26) ?hd (xs:=([(⟨#[97]⟩:ByteArray),(⟨#[97]⟩:ByteArray),(⟨#[98]⟩:ByteArray),(⟨#[98]⟩:ByteArray),(⟨#[99]⟩:ByteArray)]:List ByteArray)) (inner:=[.string (⟨#[97]⟩:ByteArray),.string (⟨#[97]⟩:ByteArray),.string (⟨#[98]⟩:ByteArray),.string (⟨#[98]⟩:ByteArray),.string (⟨#[99]⟩:ByteArray)]) (ok:=fun _=>True) (okp:=fun _=>True) ?hr ?hp (fun _ hk=>hk) trivial (Below.refl _ _) (Nat.le_refl _) (by simp) ?_;(case hd=>rfl);(case hg=>rfl);(case hr=>first|(go_simp;done)|(go_simp;rfl));(case hp=>exact (Reps.one (show Kd.M Kd.string _ _ _ (⟨#[97]⟩:ByteArray) [.string (⟨#[97]⟩:ByteArray)] from rfl) (Reps.one (show Kd.M Kd.string _ _ _ (⟨#[97]⟩:ByteArray) [.string (⟨#[97]⟩:ByteArray)] from rfl) (Reps.one (show Kd.M Kd.string _ _ _ (⟨#[98]⟩:ByteArray) [.string (⟨#[98]⟩:ByteArray)] from rfl) (Reps.one (show Kd.M Kd.string _ _ _ (⟨#[98]⟩:ByteArray) [.string (⟨#[98]⟩:ByteArray)] from rfl) (Reps.one (show Kd.M Kd.string _ _ _ (⟨#[99]⟩:ByteArray) [.string (⟨#[99]⟩:ByteArray)] from rfl) (Reps.none _ _)))))));intro v62009 w24 ho25 hb hg_ hnew_;clear hg_ hnew_;(first|rw [← Ny62008.out] at ho25|(simp only [Int.reduceToNat] at ho25;rw [← Ny62008.out] at ho25));have HO62010:=zk (Kd.R_lower (Kd.R_newM (M:=fun k_=>(w.heap.size≤k_)) ho25 (keep_size (w:=w) (g:=g) (row:=none) za10) (fun k_ h_=>h_)) (keep_size (w:=w) (g:=g) (row:=none) za10));replace BK62001:=zk (zb BK62001.out hb);replace HB:=zk (below_step za15 hb);replace HI0:=zk (IsS69.below za11 hb);replace HK:=zk (KeepBut.trans za10 (KeepBut.of_below hb g none) (.inl rfl));clear hb ho25;obtain ⟨Ao26,co26,eo26⟩:=Kd.R_slice HO62010.out;subst eo26)|((with_reducible refine gate_callee (f:=43) rfl ?_);refine goesL_ (some 27) rfl rfl Try.func43 (by kernel_rfl) rfl #[.pointer (some ⟨g,0,none⟩),.slice Ao26 y62008.length co26] rfl za4 ?_;(with_reducible refine (spec_l1Pick.calls g s0_0 t62006 t62007 _ _ y62008 t62011 t62012 t62013 w0 _ za11 za15 ?side3 ?side4 ?side5 A22.out).mono ?_);(case side3=>repeat (first|exact (Kd.R_reads' HO62010.out).2.2|(with_reducible refine Kd.C_alloc ?_ _)|(with_reducible refine Kd.C_drewN ?_ _)|(with_reducible refine Kd.C_drew ?_)));(case side4=>exact (Kd.R_reads' HO62010.out).2.1);(case side5=>exact far_slice (IsS69.own_ne HI0.out HO62010.out (by decide)));rintro e w27 ⟨rfl,hi,hb,hk⟩;refine ⟨_,rfl,?_⟩;replace BK62001:=zk (KeepBut.blk hk (g':=gb62001) (o:=.cells #[.int .i64 0,.string (⟨#[]⟩:ByteArray),.slice none 0 0] 58 (0,0)) (za1 BK62001.out) NB62001_0.out (by simp));replace HO62010:=zk (Kd.R_mono (Kd.R_keep (IsS69.apart (show IsS69 w0 _ g s0_0 t62006 t62007 from za11) (za0 HO62010.out) (by decide)) hk (fun _ h=>h.2)) (fun _ h=>h.1));replace HK:=zk (KeepBut.trans za10 hk (.inl rfl));replace HB:=zk (hb);replace HI0:=zk (hi);(try clear hb);(try clear hb2);(try clear hk);(try clear hi);have hnb28:=NB62001_0.out;have hnc28:=NB0_62001.out;obtain ⟨hcz29_0,hcz29_1,hcz29_2,hfz29_0,hfz29_1,hfz29_2⟩:=blk3 BK62001.out))
    first
    | (
       clear fin0_
       refine bodyPost_ret (results_cell_row rfl _ _ gb62001 58 #[.int .i64 3,.string t62011,.slice none 0 0] (0,0) _ rfl (zpu BK62001.out) Try.underlying58 rfl (by kernel_rfl)) rfl ?_
       exact ⟨_,za9,za41,za11,za15,za10⟩)
    | (
       clear fin1_
       refine bodyPost_ret (results_cell_row rfl _ _ gb62001 58 #[.int .i64 2,.string (⟨#[]⟩:ByteArray),.slice none 0 0] (0,0) _ rfl (zpu BK62001.out) Try.underlying58 rfl (by kernel_rfl)) rfl ?_
       exact ⟨_,za9,za41,za11,za15,za10⟩)
    | (
       clear fin2_
       refine bodyPost_ret (results_cell_row rfl _ _ gb62001 58 #[.int .i64 4,.string (⟨#[]⟩:ByteArray),.slice none 0 0] (0,0) _ rfl (zpu BK62001.out) Try.underlying58 rfl (by kernel_rfl)) rfl ?_
       exact ⟨_,za9,za41,za11,za15,za10⟩)
    | (
       clear fin3_
       refine bodyPost_ret (results_cell_row rfl _ _ gb62001 58 #[.int .i64 1,.string (⟨#[]⟩:ByteArray),.slice none 0 0] (0,0) _ rfl (zpu BK62001.out) Try.underlying58 rfl (by kernel_rfl)) rfl ?_
       exact ⟨_,za9,za41,za11,za15,za10⟩)
mutual
def spec_l9Draw.j0:Nat→ByteArray→Int→Bool→List Int→Int→Int→Option (Int × ByteArray × ByteArray × Int × ByteArray × (List (S58)) × List Int × Int × Int × Int)
 | 0,_,_,_,_,_,_=>none
 | k+1,x1,x10,x11,x1000,x1001,x1002=>if x11=true then ((spec_l8Draw.f k x1000 x1001 x1002 4 x1).bind fun bt53005=>((spec_l8Draw.f k x1000 bt53005.2.1 bt53005.2.2 4 x1).bind fun bt53008=>(some (1,bt53005.1,bt53008.1,0,(⟨#[]⟩:ByteArray),([]:List (S58)),([]:List Int),0,bt53008.2.1,bt53008.2.2)))) else (if x10=3 then ((spec_l8Draw.f k x1000 x1001 x1002 3 x1).bind fun bt53011=>((spec_l8Draw.f k x1000 bt53011.2.1 bt53011.2.2 3 x1).bind fun bt53014=>(some (2,bt53011.1,bt53014.1,0,(⟨#[]⟩:ByteArray),([]:List (S58)),([]:List Int),0,bt53014.2.1,bt53014.2.2)))) else (if x10=4 then (spec_l9Draw.j1 k x1 x10 (x10 == 4) x1000 x1001 x1002) else (spec_l9Draw.j1 k x1 x10 (x10 == 5) x1000 x1001 x1002)))
def spec_l9Draw.j1:Nat→ByteArray→Int→Bool→List Int→Int→Int→Option (Int × ByteArray × ByteArray × Int × ByteArray × (List (S58)) × List Int × Int × Int × Int)
 | 0,_,_,_,_,_,_=>none
 | k+1,x1,x10,x33,x1000,x1001,x1002=>if x33=true then (if 0≤1 then (if 1≤(x1.size:Int) then ((spec_l3Draw.f k x1000 x1001 x1002 3).bind fun bt53017=>(some (3,x1.extract 0 1,(⟨#[]⟩:ByteArray),bt53017.1,bt53017.2.1,bt53017.2.2.1,([]:List Int),0,bt53017.2.2.2.1,bt53017.2.2.2.2))) else (none)) else (none)) else (if x10=6 then (if 0≤(wrap64 ((x1.size:Int) - 1)) then (if (wrap64 ((x1.size:Int) - 1))≤(x1.size:Int) then ((spec_l3Draw.f k x1000 x1001 x1002 3).bind fun bt53024=>(some (4,x1.extract ((wrap64 ((x1.size:Int) - 1)):Int).toNat x1.size,(⟨#[]⟩:ByteArray),bt53024.1,bt53024.2.1,bt53024.2.2.1,([]:List Int),0,bt53024.2.2.2.1,bt53024.2.2.2.2))) else (none)) else (none)) else ((spec_l1PickInt.f x1000 x1001 x1002 (([0,1,3,(-1)]:List Int))).bind fun bt53034=>(spec_l9Draw.l0 k x1 0 x1000 bt53034.2.1 bt53034.2.2 5 (⟨#[]⟩:ByteArray) (⟨#[]⟩:ByteArray) 0 (⟨#[]⟩:ByteArray) ([]:List Int) bt53034.1)))
def spec_l9Draw.l0:Nat→ByteArray→Int→List Int→Int→Int→Int→ByteArray→ByteArray→Int→ByteArray→List Int→Int→Option (Int × ByteArray × ByteArray × Int × ByteArray × (List (S58)) × List Int × Int × Int × Int)
 | 0,_,_,_,_,_,_,_,_,_,_,_,_=>none
 | k+1,x1,x8,x1000,x1001,x1002,x53038000,x53038001,x53038002,x53038003,x53038004,x53038006,x53038007=>if x8 < 3 then (if 0≤x8 then ((spec_CountByte.f k x1 (bt (⟨#[88,89,90]⟩:ByteArray) x8)).bind fun t53038=>((spec_l1Bit.f (decide (t53038 > 0))).bind fun t53039=>((spec_l1PickInt.f x1000 x1001 x1002 (([1,(-1),0,2]:List Int))).bind fun bt53043=>(if x53038006.length < 17592186044416 then (spec_l9Draw.l0 k x1 (wrap64 (x8+1)) x1000 bt53043.2.1 bt53043.2.2 x53038000 x53038001 x53038002 x53038003 x53038004 (x53038006 ++ [wrap64 (t53039 * bt53043.1)]) x53038007) else (none))))) else (none)) else (some (x53038000,x53038001,x53038002,x53038003,x53038004,([]:List (S58)),x53038006,x53038007,x1001,x1002))
end
def spec_l9Draw.f (k:Nat) (s0_0:List Int) (s0_1:Int) (s0_2:Int) (a1:ByteArray):Option (Int × ByteArray × ByteArray × Int × ByteArray × (List (S58)) × List Int × Int × Int × Int):=(spec_l1Below.f s0_0 s0_1 s0_2 8).bind fun bt53002=>(if bt53002.1=0 then (spec_l9Draw.j0 k a1 bt53002.1 (bt53002.1 == 0) s0_0 bt53002.2.1 bt53002.2.2) else (if bt53002.1=1 then (spec_l9Draw.j0 k a1 bt53002.1 (bt53002.1 == 1) s0_0 bt53002.2.1 bt53002.2.2) else (spec_l9Draw.j0 k a1 bt53002.1 (bt53002.1 == 2) s0_0 bt53002.2.1 bt53002.2.2)))
def spec_l9Draw.T14:Bool × List (List Nat × List Nat):=(true,[([],[]),([],[]),([1],[1]),([2],[2]),([0,3],[0,3]),([],[]),([5],[5]),([4,6],[4,6]),([7,6,0,1,2,3,4,5,6,7],[7])])
def spec_l9Draw.B14:List Nat:=[0,0,2,6,15,0,32,127,255]
theorem spec_l9Draw.tab14:rtab .any (opsOf Try.f53 14)=spec_l9Draw.T14:=by kernel_rfl
theorem spec_l9Draw.bits14:waitsOk spec_l9Draw.T14.2 spec_l9Draw.B14=true:=by kernel_rfl
def spec_l9Draw.T19:Bool × List (List Nat × List Nat):=(true,[([],[]),([0],[0]),([],[]),([],[]),([3],[3]),([2,4],[2,4]),([5],[5]),([6,5],[6]),([],[]),([],[]),([8,9,7],[8,9]),([7,10],[7,10]),([11],[11]),([1,12,10],[1,12]),([0,1,2,3,4,5,6,7,8,9,10,11,12,13],[]),([14,13,13,0,1,2,3,4,5,6,7,8,9,10,11,12,13],[13,14])])
def spec_l9Draw.B19:List Nat:=[0,1,0,0,8,28,60,124,0,0,1020,2044,4092,8191,16383,32767]
theorem spec_l9Draw.tab19:rtab .any (opsOf Try.f53 19)=spec_l9Draw.T19:=by kernel_rfl
theorem spec_l9Draw.bits19:waitsOk spec_l9Draw.T19.2 spec_l9Draw.B19=true:=by kernel_rfl
theorem spec_l9Draw.calls (k:Nat) (g:Nat) (s0_0:List Int) (s0_1:Int) (s0_2:Int) (a1:ByteArray) (r1:Int) (r2:ByteArray) (r3:ByteArray) (r4:Int) (r5:ByteArray) (r6:List (S58)) (r7:List Int) (r8:Int) (r9:Int) (r10:Int) (w0 w:World) (hI:IsS69 w0 w g s0_0 s0_1 s0_2) (hB:Below w0.heap.size w0 w) (h:spec_l9Draw.f k s0_0 s0_1 s0_2 a1=some (r1,r2,r3,r4,r5,r6,r7,r8,r9,r10)) :
   Calls Try.prog 53 #[.pointer (some ⟨g,0,none⟩),.string a1] w fun e w'=>∃ v5_ v6_:Value,e = .returned (.agg #[.int .i64 r1,.string r2,.string r3,.int .i64 r4,.string r5,v5_,v6_,.int .i64 r8])∧Kd.N k58 58 w' w.heap.size (fun k_=>(w.heap.size≤k_)∧some k_ ≠ (v6_:Value).ownBlock) v5_ r6∧Kd.R (Kd.int .i64) 3 w' w.heap.size (fun k_=>(w.heap.size≤k_)) v6_ r7∧IsS69 w0 w' g s0_0 r9 r10∧Below w0.heap.size w0 w'∧KeepBut w w' g none:=by
 have hu61:=Try.underlying61
 have HI0:=zk hI
 have HK:=zk (KeepBut.refl w g none)
 have HL:=zk hB.size
 clear hI
 have HW0:=zk hB.size
 have HB:=zk hB
 clear hB
 have H:=h
 unfold spec_l9Draw.f at H
 clear h
 replace H:=zo H
 obtain ⟨⟨t53002,t53003,t53004⟩,A30,H⟩:=H
 try dsimp only at H
 have A3:=zk A30
 clear A30
 have HC4:=zk H
 clear H
 go_enter Try.func53,Try.ntmps53
 go_upto_if 11 with (first|((with_reducible refine gate_dst (N:=4) rfl ?_);refine zE (N:=4) (cs:=#[.int .i64 0,.string (⟨#[]⟩:ByteArray),.string (⟨#[]⟩:ByteArray),.int .i64 0,.string (⟨#[]⟩:ByteArray),.slice none 0 0,.slice none 0 0,.int .i64 0]) (t:=61) ?_;intro gb53001 hg w5 hbox hb;replace HB:=zk (below_step za12 hb);have BK53001:=zk (hbox);have GW53001:=zk ((by rw [hg];exact (keep_size (w:=w) (g:=g) (row:=none) za6):w.heap.size≤gb53001));have GE53001:=zk ((Nat.le_trans HW0.out (by rw [hg];exact (keep_size (w:=w) (g:=g) (row:=none) za6):w.heap.size≤gb53001):w0.heap.size≤gb53001));have NB0_53001:=zk ((by rw [hg];exact Nat.ne_of_lt (IsS69.lt (show IsS69 w0 _ g s0_0 s0_1 s0_2 from za5)):g ≠ gb53001));have NB53001_0:=zk ((by rw [hg];exact Nat.ne_of_gt (IsS69.lt (show IsS69 w0 _ g s0_0 s0_1 s0_2 from za5)):gb53001 ≠ g));replace HI0:=zk (IsS69.below za5 hb);replace HK:=zk (KeepBut.trans za6 (KeepBut.of_below hb g none) (.inl rfl));clear hb hbox hg)|((with_reducible refine gate_callee (f:=42) rfl ?_);refine goesL_ (some 10) rfl rfl Try.func42 (by kernel_rfl) rfl #[.pointer (some ⟨g,0,none⟩),.int .i64 8] rfl za4 ?_;(with_reducible refine (spec_l1Below.calls g s0_0 s0_1 s0_2 8 t53002 t53003 t53004 w0 _ za19 za26 A3.out).mono ?_);rintro e w6 ⟨rfl,hi,hb,hk⟩;refine ⟨_,rfl,?_⟩;replace BK53001:=zk (KeepBut.blk hk (g':=gb53001) (o:=.cells #[.int .i64 0,.string (⟨#[]⟩:ByteArray),.string (⟨#[]⟩:ByteArray),.int .i64 0,.string (⟨#[]⟩:ByteArray),.slice none 0 0,.slice none 0 0,.int .i64 0] 61 (0,0)) (za1 BK53001.out) NB53001_0.out (by simp));replace HK:=zk (KeepBut.trans za22 hk (.inl rfl));replace HB:=zk (hb);replace HI0:=zk (hi);(try clear hb);(try clear hb2);(try clear hk);(try clear hi)))
 (try simp only [Act.put,zt,zu,zv])
 go_cut [11] (fun v11 wc=>∃ (kq:Nat) (x11_3:Bool),v11 = .bool x11_3∧Aside0 (spec_l9Draw.j0 kq a1 t53002 x11_3 s0_0 t53003 t53004=some (r1,r2,r3,r4,r5,r6,r7,r8,r9,r10))∧Aside0 (kq≤k)∧Aside0 (wc.heap[gb53001]? = some (.cells #[.int .i64 0,.string (⟨#[]⟩:ByteArray),.string (⟨#[]⟩:ByteArray),.int .i64 0,.string (⟨#[]⟩:ByteArray),(.slice none 0 0),(.slice none 0 0),.int .i64 0] 61 (0,0)))∧Aside0 (IsS69 w0 wc g s0_0 t53003 t53004)∧Aside0 (KeepBut w wc g none)∧Aside0 (Below w0.heap.size w0 wc))
 case first =>
  have H:=HC4.out
  clear HC4
  by_cases c7:t53002=0
  · rw [if_pos c7] at H
    have c7b0:=zbt c7
    have c7b1:=zqn c7
    clear c7
    (first|rw [c7b0]|(simp only [i64_w,i32_w];rw [c7b0])|skip)
    have H':=zk H
    clear H
    go_wp2
    go_meet
    case rel=>exact ⟨_,((t53002 == 0)),za8,H',⟨za63⟩,⟨za1 BK53001.out⟩,⟨za19⟩,⟨za22⟩,⟨za26⟩⟩
  rw [if_neg c7] at H
  have c7b0:=zbn c7
  have c7b1:=zqt c7
  (first|rw [c7b0]|(simp only [i64_w,i32_w];rw [c7b0])|skip)
  by_cases c8:t53002=1
  · rw [if_pos c8] at H
    have c8b0:=zbt c8
    have c8b1:=zqn c8
    clear c8
    have H':=zk H
    clear H
    go_wp2
    go_meet
    case rel=>exact ⟨_,((t53002 == 1)),za8,H',⟨za63⟩,⟨za1 BK53001.out⟩,⟨za19⟩,⟨za22⟩,⟨za26⟩⟩
  · rw [if_neg c8] at H
    have c8b0:=zbn c8
    have c8b1:=zqt c8
    have H':=zk H
    clear H
    go_wp2
    go_meet
    case rel=>exact ⟨_,((t53002 == 2)),za8,H',⟨za63⟩,⟨za1 BK53001.out⟩,⟨za19⟩,⟨za22⟩,⟨za26⟩⟩
 case rest =>
  clear HC4
  obtain ⟨kq,x11_3,rfl,HA,HJ3,BK53001,HI0,HK,HB⟩:=hcut
  cases kq with
  | zero=>exact absurd HA.out (by simp [spec_l9Draw.j0])
  | succ kj3 =>
   have H:=HA.out
   clear HA
   simp only [spec_l9Draw.j0] at H
   by_cases c9:x11_3=true
   · subst c9
     rw [if_pos rfl] at H
     try dsimp only at H
     replace H:=zo H
     obtain ⟨⟨t53005,t53006,t53007⟩,A100,H⟩:=H
     try dsimp only at H
     have A10:=zk A100
     clear A100
     replace H:=zo H
     obtain ⟨⟨t53008,t53009,t53010⟩,A110,H⟩:=H
     try dsimp only at H
     have A11:=zk A110
     clear A110
     simp only [Option.some.injEq,Prod.mk.injEq] at H
     obtain ⟨rfl,rfl,rfl,rfl,rfl,rfl,rfl,rfl,rfl,rfl⟩:=H
     go_wp2_with (first|((with_reducible refine gate_callee (f:=45) rfl ?_);refine goesL_ (some 17) rfl rfl Try.func45 (by kernel_rfl) rfl #[.pointer (some ⟨g,0,none⟩),.int .i64 4,.string a1] rfl za4 ?_;(with_reducible refine (spec_l8Draw.calls kj3 g s0_0 t53003 t53004 4 a1 t53005 t53006 t53007 w0 _ za19 za26 A10.out).mono ?_);rintro e w12 ⟨rfl,hi,hb,hk⟩;refine ⟨_,rfl,?_⟩;replace BK53001:=zk (KeepBut.blk hk (g':=gb53001) (o:=.cells #[.int .i64 0,.string (⟨#[]⟩:ByteArray),.string (⟨#[]⟩:ByteArray),.int .i64 0,.string (⟨#[]⟩:ByteArray),.slice none 0 0,.slice none 0 0,.int .i64 0] 61 (0,0)) (za1 BK53001.out) NB53001_0.out (by simp));replace HK:=zk (KeepBut.trans za22 hk (.inl rfl));replace HB:=zk (hb);replace HI0:=zk (hi);(try clear hb);(try clear hb2);(try clear hk);(try clear hi))|((with_reducible refine gate_callee (f:=45) rfl ?_);refine goesL_ (some 21) rfl rfl Try.func45 (by kernel_rfl) rfl #[.pointer (some ⟨g,0,none⟩),.int .i64 4,.string a1] rfl za4 ?_;(with_reducible refine (spec_l8Draw.calls kj3 g s0_0 t53006 t53007 4 a1 t53008 t53009 t53010 w0 _ za19 za26 A11.out).mono ?_);rintro e w13 ⟨rfl,hi,hb,hk⟩;refine ⟨_,rfl,?_⟩;replace BK53001:=zk (KeepBut.blk hk (g':=gb53001) (o:=.cells #[.int .i64 0,.string (⟨#[]⟩:ByteArray),.string (⟨#[]⟩:ByteArray),.int .i64 0,.string (⟨#[]⟩:ByteArray),.slice none 0 0,.slice none 0 0,.int .i64 0] 61 (0,0)) (za1 BK53001.out) NB53001_0.out (by simp));replace HK:=zk (KeepBut.trans za22 hk (.inl rfl));replace HB:=zk (hb);replace HI0:=zk (hi);(try clear hb);(try clear hb2);(try clear hk);(try clear hi);have hnb14:=NB53001_0.out;have hnc14:=NB0_53001.out;obtain ⟨hcz15_0,hcz15_1,hcz15_2,hcz15_3,hcz15_4,hcz15_5,hcz15_6,hcz15_7,hfz15_0,hfz15_1,hfz15_2,hfz15_3,hfz15_4,hfz15_5,hfz15_6,hfz15_7⟩:=blk8 BK53001.out))
     refine bodyPost_ret (results_cell_row rfl _ _ gb53001 61 #[.int .i64 1,.string t53005,.string t53008,.int .i64 0,.string (⟨#[]⟩:ByteArray),.slice none 0 0,.slice none 0 0,.int .i64 0] (0,0) _ rfl (zpu BK53001.out) Try.underlying61 rfl (by kernel_rfl)) rfl ?_
     exact ⟨_,_,za9,za41,za41,za19,za26,za22⟩
   replace c9:=Bool.eq_false_iff.mpr c9
   subst c9
   rw [if_neg (show ¬ (false=true) by decide)] at H
   try dsimp only at H
   by_cases c16:t53002=3
   · rw [if_pos c16] at H
     have c16b0:=zbt c16
     have c16b1:=zqn c16
     clear c16
     replace H:=zo H
     obtain ⟨⟨t53011,t53012,t53013⟩,A170,H⟩:=H
     try dsimp only at H
     have A17:=zk A170
     clear A170
     replace H:=zo H
     obtain ⟨⟨t53014,t53015,t53016⟩,A180,H⟩:=H
     try dsimp only at H
     have A18:=zk A180
     clear A180
     simp only [Option.some.injEq,Prod.mk.injEq] at H
     obtain ⟨rfl,rfl,rfl,rfl,rfl,rfl,rfl,rfl,rfl,rfl⟩:=H
     go_wp2_with (first|((with_reducible refine gate_callee (f:=45) rfl ?_);refine goesL_ (some 27) rfl rfl Try.func45 (by kernel_rfl) rfl #[.pointer (some ⟨g,0,none⟩),.int .i64 3,.string a1] rfl za4 ?_;(with_reducible refine (spec_l8Draw.calls kj3 g s0_0 t53003 t53004 3 a1 t53011 t53012 t53013 w0 _ za19 za26 A17.out).mono ?_);rintro e w19 ⟨rfl,hi,hb,hk⟩;refine ⟨_,rfl,?_⟩;replace BK53001:=zk (KeepBut.blk hk (g':=gb53001) (o:=.cells #[.int .i64 0,.string (⟨#[]⟩:ByteArray),.string (⟨#[]⟩:ByteArray),.int .i64 0,.string (⟨#[]⟩:ByteArray),.slice none 0 0,.slice none 0 0,.int .i64 0] 61 (0,0)) (za1 BK53001.out) NB53001_0.out (by simp));replace HK:=zk (KeepBut.trans za22 hk (.inl rfl));replace HB:=zk (hb);replace HI0:=zk (hi);(try clear hb);(try clear hb2);(try clear hk);(try clear hi))|((with_reducible refine gate_callee (f:=45) rfl ?_);refine goesL_ (some 31) rfl rfl Try.func45 (by kernel_rfl) rfl #[.pointer (some ⟨g,0,none⟩),.int .i64 3,.string a1] rfl za4 ?_;(with_reducible refine (spec_l8Draw.calls kj3 g s0_0 t53012 t53013 3 a1 t53014 t53015 t53016 w0 _ za19 za26 A18.out).mono ?_);rintro e w20 ⟨rfl,hi,hb,hk⟩;refine ⟨_,rfl,?_⟩;replace BK53001:=zk (KeepBut.blk hk (g':=gb53001) (o:=.cells #[.int .i64 0,.string (⟨#[]⟩:ByteArray),.string (⟨#[]⟩:ByteArray),.int .i64 0,.string (⟨#[]⟩:ByteArray),.slice none 0 0,.slice none 0 0,.int .i64 0] 61 (0,0)) (za1 BK53001.out) NB53001_0.out (by simp));replace HK:=zk (KeepBut.trans za22 hk (.inl rfl));replace HB:=zk (hb);replace HI0:=zk (hi);(try clear hb);(try clear hb2);(try clear hk);(try clear hi);have hnb21:=NB53001_0.out;have hnc21:=NB0_53001.out;obtain ⟨hcz22_0,hcz22_1,hcz22_2,hcz22_3,hcz22_4,hcz22_5,hcz22_6,hcz22_7,hfz22_0,hfz22_1,hfz22_2,hfz22_3,hfz22_4,hfz22_5,hfz22_6,hfz22_7⟩:=blk8 BK53001.out))
     refine bodyPost_ret (results_cell_row rfl _ _ gb53001 61 #[.int .i64 2,.string t53011,.string t53014,.int .i64 0,.string (⟨#[]⟩:ByteArray),.slice none 0 0,.slice none 0 0,.int .i64 0] (0,0) _ rfl (zpu BK53001.out) Try.underlying61 rfl (by kernel_rfl)) rfl ?_
     exact ⟨_,_,za9,za41,za41,za19,za26,za22⟩
   · rw [if_neg c16] at H
     have c16b0:=zbn c16
     have c16b1:=zqt c16
     have HC23:=zk H
     clear H
     go_upto_if 33 with (fail)
     go_cut [33] (fun v33 wc=>∃ (kq:Nat) (x33_22:Bool),v33 = .bool x33_22∧Aside0 (spec_l9Draw.j1 kq a1 t53002 x33_22 s0_0 t53003 t53004=some (r1,r2,r3,r4,r5,r6,r7,r8,r9,r10))∧Aside0 (kq≤kj3)∧Aside0 (wc.heap[gb53001]? = some (.cells #[.int .i64 0,.string (⟨#[]⟩:ByteArray),.string (⟨#[]⟩:ByteArray),.int .i64 0,.string (⟨#[]⟩:ByteArray),(.slice none 0 0),(.slice none 0 0),.int .i64 0] 61 (0,0)))∧Aside0 (IsS69 w0 wc g s0_0 t53003 t53004)∧Aside0 (KeepBut w wc g none)∧Aside0 (Below w0.heap.size w0 wc))
     case first =>
      have H:=HC23.out
      clear HC23
      by_cases c24:t53002=4
      · rw [if_pos c24] at H
        have c24b0:=zbt c24
        have c24b1:=zqn c24
        clear c24
        (first|rw [c24b0]|(simp only [i64_w,i32_w];rw [c24b0])|skip)
        have H':=zk H
        clear H
        go_wp2
        go_meet
        case rel=>exact ⟨_,((t53002 == 4)),za8,H',⟨by have:=HJ3.out;first|omega|exact Nat.le_refl _⟩,⟨za1 BK53001.out⟩,⟨za19⟩,⟨za22⟩,⟨za26⟩⟩
      · rw [if_neg c24] at H
        have c24b0:=zbn c24
        have c24b1:=zqt c24
        (first|rw [c24b0]|(simp only [i64_w,i32_w];rw [c24b0])|skip)
        have H':=zk H
        clear H
        go_wp2
        go_meet
        case rel=>exact ⟨_,((t53002 == 5)),za8,H',⟨by have:=HJ3.out;first|omega|exact Nat.le_refl _⟩,⟨za1 BK53001.out⟩,⟨za19⟩,⟨za22⟩,⟨za26⟩⟩
     case rest =>
      clear HC23
      try clear c16
      try clear c16b0
      try clear c16b1
      obtain ⟨kq,x33_22,rfl,HA,HJ22,BK53001,HI0,HK,HB⟩:=hcut
      cases kq with
      | zero=>exact absurd HA.out (by simp [spec_l9Draw.j1])
      | succ kj22 =>
       have H:=HA.out
       clear HA
       simp only [spec_l9Draw.j1] at H
       by_cases c25:x33_22=true
       subst c25
       rw [if_pos rfl] at H
       try dsimp only at H
       by_cases c26:0≤1
       rw [if_pos c26] at H
       have c26b0:=eq_true c26
       have c26b1:=zdle c26
       clear c26
       by_cases c27:1≤(a1.size:Int)
       · rw [if_pos c27] at H
         have c27b0:=eq_true c27
         have c27b1:=zdle c27
         clear c27
         replace H:=zo H
         obtain ⟨⟨t53017,t53018,t53019,t53022,t53023⟩,A280,H⟩:=H
         try dsimp only at H
         have A28:=zk A280
         clear A280
         simp only [Option.some.injEq,Prod.mk.injEq] at H
         obtain ⟨rfl,rfl,rfl,rfl,rfl,rfl,rfl,rfl,rfl,rfl⟩:=H
         try go_wp2
         replace BK53001:=zk (blk_drew BK53001.out)
         replace HI0:=zk (IsS69.drew HI0.out)
         replace HK:=zk (keep_drew HK.out)
         replace HB:=zk (below_drew1 HB.out)
         refine start_ (n:=6) (S:=fun w'=>True) (ds:=[]) #[false,false,false,false,false,false] (by kernel_rfl) rfl rfl trivial (fun hHeld=>?_)
         generalize wc.drew=w29 at BK53001 HI0 HK HB hHeld ⊢
         refine zyk 0 (some 36) ?_
         refine zyk 1 (some 37) ?_
         refine zyk 2 (some 38) ?_
         refine one_ (i:=3) (N:=some 39) #[true,true,true,true,false,false] rfl rfl (by kernel_rfl) (by decide) (fun K hK=>?_)
         refine goes_ Try.func62 (by kernel_rfl) rfl #[.pointer (some ⟨g,0,none⟩),.int .i64 3] (by rfl) rfl rfl za4 ?_
         with_reducible refine (spec_l3Draw.calls kj22 g s0_0 t53003 t53004 3 t53017 t53018 t53019 t53022 t53023 w0 _ za19 za26 A28.out).mono ?_
         rintro e w30 ⟨v53020,rfl,ho0,hi,hb,hk⟩
         refine ⟨_,rfl,?_⟩
         have HO53021:=zk (Kd.N_lower (Kd.N_mono (ok':=fun k_=>(w.heap.size≤k_)∧k_ ≠ gb53001∧k_ ≠ g) ho0 (fun k_ hk_=>⟨(Nat.le_trans (keep_size (w:=w) (g:=g) (row:=none) za22) hk_),(Kd.freshB (g:=gb53001) (o:=.cells #[.int .i64 0,.string (⟨#[]⟩:ByteArray),.string (⟨#[]⟩:ByteArray),.int .i64 0,.string (⟨#[]⟩:ByteArray),.slice none 0 0,.slice none 0 0,.int .i64 0] 61 (0,0)) (za1 BK53001.out) k_ hk_),(IsS69.fresh za19 k_ hk_)⟩)) (keep_size (w:=w) (g:=g) (row:=none) za22))
         replace HB:=zk (hb)
         replace BK53001:=zk (KeepBut.blk hk (g':=gb53001) (o:=.cells #[.int .i64 0,.string (⟨#[]⟩:ByteArray),.string (⟨#[]⟩:ByteArray),.int .i64 0,.string (⟨#[]⟩:ByteArray),.slice none 0 0,.slice none 0 0,.int .i64 0] 61 (0,0)) (za1 BK53001.out) NB53001_0.out (by simp))
         replace HK:=zk (KeepBut.trans za22 hk (.inl rfl))
         replace HI0:=zk (hi)
         (try clear hb)
         (try clear hb2)
         (try clear hk)
         (try clear hi)
         (try clear ho0)
         obtain ⟨Ao31,co31,eo31⟩:=Kd.N_slice HO53021.out
         (first|subst eo31|(injection eo31 with f1_ f2_ f3_;have f4_:=f1_.symm;have f5_:=f3_.symm;clear f1_ f2_ f3_;subst f4_;subst f5_))
         refine hK.out _ _ trivial (fun hHeld=>?_)
         clear hK K
         refine zno (some 39) ?_
         refine zyk 4 (some 40) ?_
         refine one_ (i:=5) (N:=none) #[true,true,true,true,true,true] rfl rfl (by kernel_rfl) (by decide) (fun K hK=>?_)
         have hs32:w30.cell? ⟨gb53001,0,none⟩=some (.int .i64 0):=(blk_cell BK53001.out 0).trans rfl
         have hfs32:=blk_frozen BK53001.out 0
         have hs33:w30.cell? ⟨gb53001,1,none⟩=some (.string (⟨#[]⟩:ByteArray)):=(blk_cell BK53001.out 1).trans rfl
         have hfs33:=blk_frozen BK53001.out 1
         have hs34:w30.cell? ⟨gb53001,2,none⟩=some (.string (⟨#[]⟩:ByteArray)):=(blk_cell BK53001.out 2).trans rfl
         have hfs34:=blk_frozen BK53001.out 2
         have hs35:w30.cell? ⟨gb53001,3,none⟩=some (.int .i64 0):=(blk_cell BK53001.out 3).trans rfl
         have hfs35:=blk_frozen BK53001.out 3
         have hs36:w30.cell? ⟨gb53001,4,none⟩=some (.string (⟨#[]⟩:ByteArray)):=(blk_cell BK53001.out 4).trans rfl
         have hfs36:=blk_frozen BK53001.out 4
         have hs37:w30.cell? ⟨gb53001,5,none⟩=some (.slice none 0 0):=(blk_cell BK53001.out 5).trans rfl
         have hfs37:=blk_frozen BK53001.out 5
         have hs38:w30.cell? ⟨gb53001,6,none⟩=some (.slice none 0 0):=(blk_cell BK53001.out 6).trans rfl
         have hfs38:=blk_frozen BK53001.out 6
         have hs39:w30.cell? ⟨gb53001,7,none⟩=some (.int .i64 0):=(blk_cell BK53001.out 7).trans rfl
         have hfs39:=blk_frozen BK53001.out 7
         refine skip_ (w1:=?_) (by rfl) rfl ?_ ?_
         rotate_left
         · go_simp
           rfl
         refine hK.out _ _ trivial (fun hHeld=>?_)
         clear hK K
         refine done_ (by kernel_rfl) ?_
         try go_wp2
         refine bodyPost_ret (results_cell_row rfl _ _ gb53001 61 #[.int .i64 3,.string (a1.extract 0 1),.string (⟨#[]⟩:ByteArray),.int .i64 t53017,.string t53018,.slice Ao31 t53019.length co31,.slice none 0 0,.int .i64 0] (0,0) _ rfl (zpu BK53001.out) Try.underlying61 rfl (by kernel_rfl)) rfl ?_
         exact ⟨_,_,za9,by (with_reducible repeat (first|apply Kd.N_alloc|apply Kd.N_drewN|apply Kd.N_drew));exact Kd.N_mono (zfN (zfN (zfN (zfN (zfN (zfN (zfN (zfN (Kd.N_mono HO53021.out (fun k_ hk=>(⟨hk,hk.2.1⟩:_∧k_ ≠ gb53001))))))))))) (fun _ hk=>⟨hk.1.1,(by simp [Value.ownBlock])⟩),za41,za19,za26,za22⟩
       · rw [if_neg c27] at H
         exact absurd H (by simp)
       · rw [if_neg c26] at H
         exact absurd H (by simp)
       replace c25:=Bool.eq_false_iff.mpr c25
       subst c25
       rw [if_neg (show ¬ (false=true) by decide)] at H
       try dsimp only at H
       by_cases c40:t53002=6
       rw [if_pos c40] at H
       have c40b0:=zbt c40
       have c40b1:=zqn c40
       clear c40
       obtain ⟨ji41,hji41⟩:∃ j_:Int,(wrap64 ((a1.size:Int) - 1))=j_:=⟨_,rfl⟩
       replace H:(if 0≤(ji41) then (if (ji41)≤(a1.size:Int) then ((spec_l3Draw.f kj22 s0_0 t53003 t53004 3).bind fun bt53024=>(some (4,a1.extract ((ji41):Int).toNat a1.size,(⟨#[]⟩:ByteArray),bt53024.1,bt53024.2.1,bt53024.2.2.1,([]:List Int),0,bt53024.2.2.2.1,bt53024.2.2.2.2))) else (none)) else (none))=some (r1,r2,r3,r4,r5,r6,r7,r8,r9,r10):=by first|(rw [hji41] at H;exact H)|(simp only [hji41] at H ⊢;exact H)
       have hji41w:(IntKind.i64.wrap ((a1.size:Int) - 1))=ji41:=(i64_w _).trans hji41
       by_cases c42:0≤(ji41)
       rw [if_pos c42] at H
       have c42b0:=eq_true c42
       have c42b1:=zdle c42
       clear c42
       by_cases c43:(ji41)≤(a1.size:Int)
       · rw [if_pos c43] at H
         have c43b0:=eq_true c43
         have c43b1:=zdle c43
         clear c43
         replace H:=zo H
         obtain ⟨⟨t53024,t53025,t53026,t53029,t53030⟩,A440,H⟩:=H
         try dsimp only at H
         have A44:=zk A440
         clear A440
         simp only [Option.some.injEq,Prod.mk.injEq] at H
         obtain ⟨rfl,rfl,rfl,rfl,rfl,rfl,rfl,rfl,rfl,rfl⟩:=H
         try go_wp2
         replace BK53001:=zk (blk_drew BK53001.out)
         replace HI0:=zk (IsS69.drew HI0.out)
         replace HK:=zk (keep_drew HK.out)
         replace HB:=zk (below_drew1 HB.out)
         refine start_ (n:=9) (S:=fun w'=>True) (ds:=[]) #[false,false,false,false,false,false,false,false,false] (by kernel_rfl) rfl rfl trivial (fun hHeld=>?_);refine with_tabW spec_l9Draw.tab14 spec_l9Draw.bits14 (fun HT_ HW_=>?_)
         generalize wc.drew=w45 at BK53001 HI0 HK HB hHeld ⊢
         refine zy 0 (some 43) HT_.out ?_
         refine zy 1 (some 44) HT_.out ?_
         refine zy 2 (some 45) HT_.out ?_
         refine zy 3 (some 46) HT_.out ?_
         refine zy 4 (some 47) HT_.out ?_
         refine zy 5 (some 48) HT_.out ?_
         refine zon 6 (some 49) HT_.out (fun K hK=>?_)
         refine goes_ Try.func62 (by kernel_rfl) rfl #[.pointer (some ⟨g,0,none⟩),.int .i64 3] (by rfl) rfl rfl za4 ?_
         with_reducible refine (spec_l3Draw.calls kj22 g s0_0 t53003 t53004 3 t53024 t53025 t53026 t53029 t53030 w0 _ za19 za26 A44.out).mono ?_
         rintro e w46 ⟨v53027,rfl,ho0,hi,hb,hk⟩
         refine ⟨_,rfl,?_⟩
         have HO53028:=zk (Kd.N_lower (Kd.N_mono (ok':=fun k_=>(w.heap.size≤k_)∧k_ ≠ gb53001∧k_ ≠ g) ho0 (fun k_ hk_=>⟨(Nat.le_trans (keep_size (w:=w) (g:=g) (row:=none) za22) hk_),(Kd.freshB (g:=gb53001) (o:=.cells #[.int .i64 0,.string (⟨#[]⟩:ByteArray),.string (⟨#[]⟩:ByteArray),.int .i64 0,.string (⟨#[]⟩:ByteArray),.slice none 0 0,.slice none 0 0,.int .i64 0] 61 (0,0)) (za1 BK53001.out) k_ hk_),(IsS69.fresh za19 k_ hk_)⟩)) (keep_size (w:=w) (g:=g) (row:=none) za22))
         replace HB:=zk (hb)
         replace BK53001:=zk (KeepBut.blk hk (g':=gb53001) (o:=.cells #[.int .i64 0,.string (⟨#[]⟩:ByteArray),.string (⟨#[]⟩:ByteArray),.int .i64 0,.string (⟨#[]⟩:ByteArray),.slice none 0 0,.slice none 0 0,.int .i64 0] 61 (0,0)) (za1 BK53001.out) NB53001_0.out (by simp))
         replace HK:=zk (KeepBut.trans za22 hk (.inl rfl))
         replace HI0:=zk (hi)
         (try clear hb)
         (try clear hb2)
         (try clear hk)
         (try clear hi)
         (try clear ho0)
         obtain ⟨Ao47,co47,eo47⟩:=Kd.N_slice HO53028.out
         (first|subst eo47|(injection eo47 with f1_ f2_ f3_;have f4_:=f1_.symm;have f5_:=f3_.symm;clear f1_ f2_ f3_;subst f4_;subst f5_))
         refine hK.out _ _ trivial (fun hHeld=>?_)
         clear hK K
         refine zno (some 49) ?_
         refine zy 7 (some 50) HT_.out ?_
         refine zon 8 none HT_.out (fun K hK=>?_)
         have hs48:w46.cell? ⟨gb53001,0,none⟩=some (.int .i64 0):=(blk_cell BK53001.out 0).trans rfl
         have hfs48:=blk_frozen BK53001.out 0
         have hs49:w46.cell? ⟨gb53001,1,none⟩=some (.string (⟨#[]⟩:ByteArray)):=(blk_cell BK53001.out 1).trans rfl
         have hfs49:=blk_frozen BK53001.out 1
         have hs50:w46.cell? ⟨gb53001,2,none⟩=some (.string (⟨#[]⟩:ByteArray)):=(blk_cell BK53001.out 2).trans rfl
         have hfs50:=blk_frozen BK53001.out 2
         have hs51:w46.cell? ⟨gb53001,3,none⟩=some (.int .i64 0):=(blk_cell BK53001.out 3).trans rfl
         have hfs51:=blk_frozen BK53001.out 3
         have hs52:w46.cell? ⟨gb53001,4,none⟩=some (.string (⟨#[]⟩:ByteArray)):=(blk_cell BK53001.out 4).trans rfl
         have hfs52:=blk_frozen BK53001.out 4
         have hs53:w46.cell? ⟨gb53001,5,none⟩=some (.slice none 0 0):=(blk_cell BK53001.out 5).trans rfl
         have hfs53:=blk_frozen BK53001.out 5
         have hs54:w46.cell? ⟨gb53001,6,none⟩=some (.slice none 0 0):=(blk_cell BK53001.out 6).trans rfl
         have hfs54:=blk_frozen BK53001.out 6
         have hs55:w46.cell? ⟨gb53001,7,none⟩=some (.int .i64 0):=(blk_cell BK53001.out 7).trans rfl
         have hfs55:=blk_frozen BK53001.out 7
         refine skip_ (w1:=?_) (by rfl) rfl ?_ ?_
         rotate_left
         · go_simp
           rfl
         refine hK.out _ _ trivial (fun hHeld=>?_)
         clear hK K
         refine done_ (done_of HT_.out (by kernel_rfl)) ?_
         try go_wp2
         refine bodyPost_ret (results_cell_row rfl _ _ gb53001 61 #[.int .i64 4,.string (a1.extract ((ji41):Int).toNat a1.size),.string (⟨#[]⟩:ByteArray),.int .i64 t53024,.string t53025,.slice Ao47 t53026.length co47,.slice none 0 0,.int .i64 0] (0,0) _ rfl (zpu BK53001.out) Try.underlying61 rfl (by kernel_rfl)) rfl ?_
         exact ⟨_,_,by first|rfl|(simp [errW_none,errW_some] <;> rfl)|(simp only [← hji41];first|rfl|(simp [errW_none,errW_some] <;> rfl))|(simp [*,errW_none,errW_some] <;> rfl),by (with_reducible repeat (first|apply Kd.N_alloc|apply Kd.N_drewN|apply Kd.N_drew));exact Kd.N_mono (zfN (zfN (zfN (zfN (zfN (zfN (zfN (zfN (Kd.N_mono HO53028.out (fun k_ hk=>(⟨hk,hk.2.1⟩:_∧k_ ≠ gb53001))))))))))) (fun _ hk=>⟨hk.1.1,(by simp [Value.ownBlock])⟩),za41,za19,za26,za22⟩
       · rw [if_neg c43] at H
         exact absurd H (by simp)
       · rw [if_neg c42] at H
         exact absurd H (by simp)
       · rw [if_neg c40] at H
         have c40b0:=zbn c40
         have c40b1:=zqt c40
         obtain ⟨y53031,hy53031⟩:∃ y_:List Int,y_=(([0,1,3,(-1)]:List Int)):=⟨_,rfl⟩
         replace H:((spec_l1PickInt.f s0_0 t53003 t53004 y53031).bind fun bt53034=>(spec_l9Draw.l0 kj22 a1 0 s0_0 bt53034.2.1 bt53034.2.2 5 (⟨#[]⟩:ByteArray) (⟨#[]⟩:ByteArray) 0 (⟨#[]⟩:ByteArray) ([]:List Int) bt53034.1))=some (r1,r2,r3,r4,r5,r6,r7,r8,r9,r10):=by first|(rw [hy53031];with_reducible exact H)|(have H2_:=(Option.bind_some _ _).symm.trans H;rw [hy53031];with_reducible exact H2_)|(have H2_:=(Option.bind_some _ _).symm.trans H;with_reducible exact H2_)|with_reducible exact H|(rw [hy53031];exact H)|exact H
         have Ny53031:=zk hy53031
         clear hy53031
         replace H:=zo H
         obtain ⟨⟨t53034,t53035,t53036⟩,A560,H⟩:=H
         try dsimp only at H
         have A56:=zk A560
         clear A560
         have H':=zk H
         clear H
         go_wp2_with (first|((with_reducible refine gate_dst (N:=52) rfl ?_);refine Kd.R_lit (Kd.int .i64) _ 3 ?hg (N:=52) ?hd (xs:=([0,1,3,(-1)]:List Int)) (inner:=[.int .i64 0,.int .i64 1,.int .i64 3,.int .i64 (-1)]) (ok:=fun _=>True) (okp:=fun _=>True) ?hr ?hp (fun _ hk=>hk) trivial (Below.refl _ _) (Nat.le_refl _) (by simp) ?_;(case hd=>rfl);(case hg=>rfl);(case hr=>first|(go_simp;done)|(go_simp;rfl));(case hp=>exact (Reps.one (show Kd.M (Kd.int .i64) _ _ _ 0 [.int .i64 0] from rfl) (Reps.one (show Kd.M (Kd.int .i64) _ _ _ 1 [.int .i64 1] from rfl) (Reps.one (show Kd.M (Kd.int .i64) _ _ _ 3 [.int .i64 3] from rfl) (Reps.one (show Kd.M (Kd.int .i64) _ _ _ (-1) [.int .i64 (-1)] from rfl) (Reps.none _ _))))));intro v53032 w57 ho58 hb hg_ hnew_;clear hg_ hnew_;(first|rw [← Ny53031.out] at ho58|(simp only [Int.reduceToNat] at ho58;rw [← Ny53031.out] at ho58));have HO53033:=zk (Kd.R_lower (Kd.R_newM (M:=fun k_=>(w.heap.size≤k_)) ho58 (keep_size (w:=w) (g:=g) (row:=none) za22) (fun k_ h_=>h_)) (keep_size (w:=w) (g:=g) (row:=none) za22));replace BK53001:=zk (zb BK53001.out hb);replace HB:=zk (below_step za26 hb);replace HI0:=zk (IsS69.below za19 hb);replace HK:=zk (KeepBut.trans za22 (KeepBut.of_below hb g none) (.inl rfl));clear hb ho58;obtain ⟨Ao59,co59,eo59⟩:=Kd.R_slice HO53033.out;subst eo59)|((with_reducible refine gate_callee (f:=61) rfl ?_);refine goesL_ (some 53) rfl rfl Try.func61 (by kernel_rfl) rfl #[.pointer (some ⟨g,0,none⟩),.slice Ao59 y53031.length co59] rfl za4 ?_;(with_reducible refine (spec_l1PickInt.calls g s0_0 t53003 t53004 _ _ y53031 t53034 t53035 t53036 w0 _ za19 za26 ?side3 ?side4 ?side5 A56.out).mono ?_);(case side3=>repeat (first|exact (Kd.R_reads' HO53033.out).2.2|(with_reducible refine Kd.C_alloc ?_ _)|(with_reducible refine Kd.C_drewN ?_ _)|(with_reducible refine Kd.C_drew ?_)));(case side4=>exact (Kd.R_reads' HO53033.out).2.1);(case side5=>exact far_slice (IsS69.own_ne HI0.out HO53033.out (by decide)));rintro e w60 ⟨rfl,hi,hb,hk⟩;refine ⟨_,rfl,?_⟩;replace BK53001:=zk (KeepBut.blk hk (g':=gb53001) (o:=.cells #[.int .i64 0,.string (⟨#[]⟩:ByteArray),.string (⟨#[]⟩:ByteArray),.int .i64 0,.string (⟨#[]⟩:ByteArray),.slice none 0 0,.slice none 0 0,.int .i64 0] 61 (0,0)) (za1 BK53001.out) NB53001_0.out (by simp));replace HO53033:=zk (Kd.R_mono (Kd.R_keep (IsS69.apart (show IsS69 w0 _ g s0_0 t53003 t53004 from za19) (za0 HO53033.out) (by decide)) hk (fun _ h=>h.2)) (fun _ h=>h.1));replace HK:=zk (KeepBut.trans za22 hk (.inl rfl));replace HB:=zk (hb);replace HI0:=zk (hi);(try clear hb);(try clear hb2);(try clear hk);(try clear hi))|((with_reducible refine gate_dst (N:=7) rfl ?_);refine zE (N:=7) (cs:=#[.int .i64 0,.string (⟨#[]⟩:ByteArray),.string (⟨#[]⟩:ByteArray),.int .i64 0,.string (⟨#[]⟩:ByteArray),.slice none 0 0,.slice none 0 0,.int .i64 0]) (t:=61) ?_;intro gb53037 hg w61 hbox hb;replace HO53033:=zk (Kd.R_below (za0 HO53033.out) hb);replace HB:=zk (below_step za26 hb);have BK53037:=zk (hbox);have GW53037:=zk ((by rw [hg];exact (keep_size (w:=w) (g:=g) (row:=none) za22):w.heap.size≤gb53037));have GE53037:=zk ((Nat.le_trans HW0.out (by rw [hg];exact (keep_size (w:=w) (g:=g) (row:=none) za22):w.heap.size≤gb53037):w0.heap.size≤gb53037));have NB53001_53037:=zk ((by rw [hg];exact Nat.ne_of_lt (zl BK53001.out):gb53001 ≠ gb53037));have NB53037_53001:=zk ((by rw [hg];exact Nat.ne_of_gt (zl BK53001.out):gb53037 ≠ gb53001));have NB0_53037:=zk ((by rw [hg];exact Nat.ne_of_lt (IsS69.lt (show IsS69 w0 _ g s0_0 t53035 t53036 from za19)):g ≠ gb53037));have NB53037_0:=zk ((by rw [hg];exact Nat.ne_of_gt (IsS69.lt (show IsS69 w0 _ g s0_0 t53035 t53036 from za19)):gb53037 ≠ g));replace BK53001:=zk (zb BK53001.out hb);replace HI0:=zk (IsS69.below za19 hb);replace HK:=zk (KeepBut.trans za22 (KeepBut.of_below hb g none) (.inl rfl));clear hb hbox hg;have hnb62:=NB53037_53001.out;have hnc62:=NB53001_53037.out;have hnb63:=NB53037_0.out;have hnc63:=NB0_53037.out;obtain ⟨hcz64_0,hcz64_1,hcz64_2,hcz64_3,hcz64_4,hcz64_5,hcz64_6,hcz64_7,hfz64_0,hfz64_1,hfz64_2,hfz64_3,hfz64_4,hfz64_5,hfz64_6,hfz64_7⟩:=blk8 BK53037.out))
         try simp only [Act.put,zt,zv,zu]
         go_loopg [8] kj22 (fun kq v8 w'=>∃ (x8_3:Int) (x1001_3:Int) (x1002_3:Int) (x53038006_3:List Int) (u53038006:Value),v8 = .int .i64 x8_3∧Aside0 (spec_l9Draw.l0 kq a1 x8_3 s0_0 x1001_3 x1002_3 5 (⟨#[]⟩:ByteArray) (⟨#[]⟩:ByteArray) 0 (⟨#[]⟩:ByteArray) x53038006_3 t53034=some (r1,r2,r3,r4,r5,r6,r7,r8,r9,r10))∧Aside0 (kq≤kj22)∧Aside0 (Kd.R (Kd.int .i64) 3 w' w.heap.size (fun k_=>(w.heap.size≤k_)) u53038006 x53038006_3)∧Aside0 (w'.heap[gb53001]? = some (.cells #[.int .i64 0,.string (⟨#[]⟩:ByteArray),.string (⟨#[]⟩:ByteArray),.int .i64 0,.string (⟨#[]⟩:ByteArray),(.slice none 0 0),(.slice none 0 0),.int .i64 0] 61 (0,0)))∧Aside0 (w'.heap[gb53037]? = some (.cells #[.int .i64 5,.string (⟨#[]⟩:ByteArray),.string (⟨#[]⟩:ByteArray),.int .i64 0,.string (⟨#[]⟩:ByteArray),(.slice none 0 0),u53038006,.int .i64 t53034] 61 (0,0)))∧Aside0 (IsS69 w0 w' g s0_0 x1001_3 x1002_3)∧Aside0 (KeepBut w w' g none)∧Aside0 (Below w0.heap.size w0 w'))
         case atStart=>exact ⟨(0),(t53035),(t53036),(([]:List Int)),(.slice none 0 0),za8,H',⟨Nat.le_refl _⟩,⟨za41⟩,⟨by (with_reducible repeat (first|refine blk_drewN ?_ _|refine blk_drew ?_|refine blk_alloc ?_ _));refine blk_far ?_ NB53001_53037.out _;(with_reducible repeat (first|refine blk_drewN ?_ _|refine blk_drew ?_|refine blk_alloc ?_ _));refine blk_far ?_ NB53001_53037.out _;(with_reducible repeat (first|refine blk_drewN ?_ _|refine blk_drew ?_|refine blk_alloc ?_ _));refine blk_far ?_ NB53001_53037.out _;(with_reducible repeat (first|refine blk_drewN ?_ _|refine blk_drew ?_|refine blk_alloc ?_ _));refine blk_far ?_ NB53001_53037.out _;(with_reducible repeat (first|refine blk_drewN ?_ _|refine blk_drew ?_|refine blk_alloc ?_ _));refine blk_far ?_ NB53001_53037.out _;(with_reducible repeat (first|refine blk_drewN ?_ _|refine blk_drew ?_|refine blk_alloc ?_ _));refine blk_far ?_ NB53001_53037.out _;(with_reducible repeat (first|refine blk_drewN ?_ _|refine blk_drew ?_|refine blk_alloc ?_ _));refine blk_far ?_ NB53001_53037.out _;(with_reducible repeat (first|refine blk_drewN ?_ _|refine blk_drew ?_|refine blk_alloc ?_ _));refine blk_far ?_ NB53001_53037.out _;(with_reducible repeat (first|refine blk_drewN ?_ _|refine blk_drew ?_|refine blk_alloc ?_ _));exact BK53001.out⟩,⟨zpu BK53037.out⟩,⟨za33⟩,⟨za24⟩,⟨za36⟩⟩
         case round =>
          clear H'
          try clear c16
          try clear c16b0
          try clear c16b1
          try clear c40
          try clear c40b0
          try clear c40b1
          try clear hcz64_0
          try clear hcz64_1
          try clear hcz64_2
          try clear hcz64_3
          try clear hcz64_4
          try clear hcz64_5
          try clear hcz64_6
          try clear hcz64_7
          try clear hfz64_0
          try clear hfz64_1
          try clear hfz64_2
          try clear hfz64_3
          try clear hfz64_4
          try clear hfz64_5
          try clear hfz64_6
          try clear hfz64_7
          obtain ⟨x8_3,x1001_3,x1002_3,x53038006_3,u53038006,rfl,HA,HK3,HO_53038006,BK53001,BK53037,HI0,HK,HB⟩:=hrel
          cases gk with
          | zero=>exact absurd HA.out (by simp [spec_l9Draw.l0])
          | succ k3 =>
           have H:=HA.out
           clear HA
           simp only [spec_l9Draw.l0] at H
           by_cases c65:x8_3 < 3
           rw [if_pos c65] at H
           have c65b0:=zdl c65
           clear c65
           by_cases c66:0≤x8_3
           rw [if_pos c66] at H
           have c66b0:=zdle c66
           clear c66
           replace H:=zo H
           obtain ⟨t53038,A680,H⟩:=H
           try dsimp only at H
           have A68:=zk A680
           clear A680
           replace H:=zo H
           obtain ⟨t53039,A690,H⟩:=H
           try dsimp only at H
           have A69:=zk A690
           clear A690
           obtain ⟨y53040,hy53040⟩:∃ y_:List Int,y_=(([1,(-1),0,2]:List Int)):=⟨_,rfl⟩
           replace H:((spec_l1PickInt.f s0_0 x1001_3 x1002_3 y53040).bind fun bt53043=>(if x53038006_3.length < 17592186044416 then (spec_l9Draw.l0 k3 a1 (wrap64 (x8_3+1)) s0_0 bt53043.2.1 bt53043.2.2 5 (⟨#[]⟩:ByteArray) (⟨#[]⟩:ByteArray) 0 (⟨#[]⟩:ByteArray) (x53038006_3 ++ [wrap64 (t53039 * bt53043.1)]) t53034) else (none)))=some (r1,r2,r3,r4,r5,r6,r7,r8,r9,r10):=by first|(rw [hy53040];with_reducible exact H)|(have H2_:=(Option.bind_some _ _).symm.trans H;rw [hy53040];with_reducible exact H2_)|(have H2_:=(Option.bind_some _ _).symm.trans H;with_reducible exact H2_)|with_reducible exact H|(rw [hy53040];exact H)|exact H
           have Ny53040:=zk hy53040
           clear hy53040
           replace H:=zo H
           obtain ⟨⟨t53043,t53044,t53045⟩,A700,H⟩:=H
           try dsimp only at H
           have A70:=zk A700
           clear A700
           by_cases c71:x53038006_3.length < 17592186044416
           ·rw [if_pos c71] at H
            have LMc71:=zk c71
            clear c71
            obtain ⟨y53046,hy53046⟩:∃ y_:List Int,y_=(x53038006_3 ++ [wrap64 (t53039 * t53043)]):=⟨_,rfl⟩
            replace H:(spec_l9Draw.l0 k3 a1 (wrap64 (x8_3+1)) s0_0 t53044 t53045 5 (⟨#[]⟩:ByteArray) (⟨#[]⟩:ByteArray) 0 (⟨#[]⟩:ByteArray) y53046 t53034)=some (r1,r2,r3,r4,r5,r6,r7,r8,r9,r10):=by first|(rw [hy53046];with_reducible exact H)|(have H2_:=(Option.bind_some _ _).symm.trans H;rw [hy53046];with_reducible exact H2_)|(have H2_:=(Option.bind_some _ _).symm.trans H;with_reducible exact H2_)|with_reducible exact H|(rw [hy53046];exact H)|exact H
            have Ny53046:=zk hy53046
            clear hy53046
            have H':=zk H
            clear H
            obtain ⟨Ao72,co72,eo72⟩:=Kd.R_slice HO_53038006.out
            subst eo72
            try go_wp2
            replace HO_53038006:=zk (Kd.R_drew HO_53038006.out)
            replace BK53001:=zk (blk_drew BK53001.out)
            replace BK53037:=zk (blk_drew BK53037.out)
            replace HI0:=zk (IsS69.drew HI0.out)
            replace HK:=zk (keep_drew HK.out)
            replace HB:=zk (below_drew1 HB.out)
            have p67:0≤(x8_3:Int):=of_decide_eq_true za7
            have q67:x8_3 < (3:Int):=of_decide_eq_true za7
            have hx67:=bt_at (⟨#[88,89,90]⟩:ByteArray) x8_3
            replace p67:=eq_true p67
            replace q67:=eq_true q67
            refine start_ (n:=16) (S:=fun w'=>w'.cell? ⟨gb53037,0,none⟩=some (.int .i64 5)∧w'.cell? ⟨gb53037,1,none⟩=some (.string (⟨#[]⟩:ByteArray))∧w'.cell? ⟨gb53037,2,none⟩=some (.string (⟨#[]⟩:ByteArray))∧w'.cell? ⟨gb53037,3,none⟩=some (.int .i64 0)∧w'.cell? ⟨gb53037,4,none⟩=some (.string (⟨#[]⟩:ByteArray))∧w'.cell? ⟨gb53037,5,none⟩=some (.slice none 0 0)∧w'.cell? ⟨gb53037,6,none⟩=some (.slice Ao72 x53038006_3.length co72)∧w'.cell? ⟨gb53037,7,none⟩=some (.int .i64 t53034)) (ds:=[15]) #[false,false,false,false,false,false,false,false,false,false,false,false,false,false,false,false] (by kernel_rfl) rfl rfl ⟨(blk_cell BK53037.out 0).trans rfl,(blk_cell BK53037.out 1).trans rfl,(blk_cell BK53037.out 2).trans rfl,(blk_cell BK53037.out 3).trans rfl,(blk_cell BK53037.out 4).trans rfl,(blk_cell BK53037.out 5).trans rfl,(blk_cell BK53037.out 6).trans rfl,(blk_cell BK53037.out 7).trans rfl⟩ (fun hHeld=>?_);refine with_tabW spec_l9Draw.tab19 spec_l9Draw.bits19 (fun HT_ HW_=>?_)
            generalize wr.drew=w73 at HO_53038006 BK53001 BK53037 HI0 HK HB hHeld ⊢
            refine zy 0 (some 59) HT_.out ?_
            refine zy 2 (some 61) HT_.out ?_
            refine zy 3 (some 62) HT_.out ?_
            refine zy 8 (some 67) HT_.out ?_
            refine ztk 1 (some 60) HT_.out HW_.out hHeld ?_
            refine ztk 4 (some 63) HT_.out HW_.out hHeld ?_
            refine join_ (σ:=Value) 6 #[true,true,true,true,true,true,true,true,true,true,false,false,false,false,false,false] (fun s_ => [(64,.int .i64 t53038),(66,.int .i64 t53039),(68,s_),(65,.bool (decide (t53038 > 0)))]) (fun s_ w'=>(w'.cell? ⟨gb53037,0,none⟩=some (.int .i64 5)∧w'.cell? ⟨gb53037,1,none⟩=some (.string (⟨#[]⟩:ByteArray))∧w'.cell? ⟨gb53037,2,none⟩=some (.string (⟨#[]⟩:ByteArray))∧w'.cell? ⟨gb53037,3,none⟩=some (.int .i64 0)∧w'.cell? ⟨gb53037,4,none⟩=some (.string (⟨#[]⟩:ByteArray))∧w'.cell? ⟨gb53037,5,none⟩=some (.slice none 0 0)∧w'.cell? ⟨gb53037,6,none⟩=some (.slice Ao72 x53038006_3.length co72)∧w'.cell? ⟨gb53037,7,none⟩=some (.int .i64 t53034))∧(Kd.R (Kd.int .i64) 3 w' w.heap.size (fun k_=>(w.heap.size≤k_)∧some k_ ≠ (.slice Ao72 x53038006_3.length co72:Value).ownBlock) s_ y53040)∧(Kd.R (Kd.int .i64) 3 w' w.heap.size (fun k_=>(w.heap.size≤k_)∧some k_ ≠ (s_:Value).ownBlock) (.slice Ao72 x53038006_3.length co72) x53038006_3)∧(w'.heap[gb53001]? = some (.cells #[.int .i64 0,.string (⟨#[]⟩:ByteArray),.string (⟨#[]⟩:ByteArray),.int .i64 0,.string (⟨#[]⟩:ByteArray),.slice none 0 0,.slice none 0 0,.int .i64 0] 61 (0,0)))∧(w'.heap[gb53037]? = some (.cells #[.int .i64 5,.string (⟨#[]⟩:ByteArray),.string (⟨#[]⟩:ByteArray),.int .i64 0,.string (⟨#[]⟩:ByteArray),.slice none 0 0,.slice Ao72 x53038006_3.length co72,.int .i64 t53034] 61 (0,0)))∧(IsS69 w0 w' g s0_0 x1001_3 x1002_3)∧(KeepBut w w' g none)∧(Below w0.heap.size w0 w')) ?_ ?_
            rotate_left
            ·intro hCont
             refine two_ (i:=5) (j:=9) (Ni:=some 64) (Nj:=some 68) #[true,true,true,true,true,true,false,false,true,false,false,false,false,false,false,false] #[true,true,true,true,true,false,false,false,true,true,false,false,false,false,false,false] rfl rfl rfl rfl (two_of HT_.out (by kernel_rfl)) (by decide) (by decide) (fun K hK=>?_) (fun K hK=>?_)
             ·skip
              refine goes_ Try.func18 (by kernel_rfl) rfl #[.string a1,.int .u8 (bt (⟨#[88,89,90]⟩:ByteArray) x8_3)] (by rfl) rfl rfl za4 ?_
              with_reducible refine (spec_CountByte.calls k3 a1 (bt (⟨#[88,89,90]⟩:ByteArray) x8_3) t53038 _ A68.out).mono ?_
              rintro e w' ⟨rfl,⟨nd,rfl⟩⟩
              refine ⟨_,rfl,?_⟩
              refine hK.out _ _ ⟨(blk_cell BK53037.out 0).trans rfl,(blk_cell BK53037.out 1).trans rfl,(blk_cell BK53037.out 2).trans rfl,(blk_cell BK53037.out 3).trans rfl,(blk_cell BK53037.out 4).trans rfl,(blk_cell BK53037.out 5).trans rfl,(blk_cell BK53037.out 6).trans rfl,(blk_cell BK53037.out 7).trans rfl⟩ (fun hHeld=>?_)
              clear hK K
              refine zno (some 64) ?_
              refine zy 6 (some 65) HT_.out ?_
              refine two_ (i:=7) (j:=9) (Ni:=some 66) (Nj:=some 68) #[true,true,true,true,true,true,true,true,true,false,false,false,false,false,false,false] #[true,true,true,true,true,true,true,false,true,true,false,false,false,false,false,false] rfl rfl rfl rfl (two_of HT_.out (by kernel_rfl)) (by decide) (by decide) (fun K hK=>?_) (fun K hK=>?_)
              ·skip
               refine goes_ Try.func63 (by kernel_rfl) rfl #[.bool (decide (t53038 > 0))] (by rfl) rfl rfl za4 ?_
               with_reducible refine (spec_l1Bit.calls (decide (t53038 > 0)) t53039 _ A69.out).mono ?_
               rintro e w' ⟨rfl,⟨nd,rfl⟩⟩
               refine ⟨_,rfl,?_⟩
               refine hK.out _ _ ⟨(blk_cell BK53037.out 0).trans rfl,(blk_cell BK53037.out 1).trans rfl,(blk_cell BK53037.out 2).trans rfl,(blk_cell BK53037.out 3).trans rfl,(blk_cell BK53037.out 4).trans rfl,(blk_cell BK53037.out 5).trans rfl,(blk_cell BK53037.out 6).trans rfl,(blk_cell BK53037.out 7).trans rfl⟩ (fun hHeld=>?_)
               clear hK K
               refine zno (some 66) ?_
               refine zon 9 (some 68) HT_.out (fun K hK=>?_)
               refine Kd.R_lit_step (Kd.int .i64) _ 3 ?hg (N:=68) ?hd (xs:=([1,(-1),0,2]:List Int)) (inner:=[.int .i64 1,.int .i64 (-1),.int .i64 0,.int .i64 2]) (ok:=fun _=>True) (okp:=fun _=>True) ?hr ?hp (fun _ hk=>hk) trivial (Below.refl _ _) (Nat.le_refl _) (by simp) ?_;(case hd=>rfl);(case hg=>rfl);(case hr=>first|(go_simp;done)|(go_simp;rfl));(case hp=>exact (Reps.one (show Kd.M (Kd.int .i64) _ _ _ 1 [.int .i64 1] from rfl) (Reps.one (show Kd.M (Kd.int .i64) _ _ _ (-1) [.int .i64 (-1)] from rfl) (Reps.one (show Kd.M (Kd.int .i64) _ _ _ 0 [.int .i64 0] from rfl) (Reps.one (show Kd.M (Kd.int .i64) _ _ _ 2 [.int .i64 2] from rfl) (Reps.none _ _))))))
               intro v53041 w74 ho75 hb hg_ hnew_
               clear hg_ hnew_
               (first|rw [← Ny53040.out] at ho75|(simp only [Int.reduceToNat] at ho75;rw [← Ny53040.out] at ho75))
               have HO53042:=zk (Kd.R_lower (Kd.R_new' (Kd.R_newM (M:=fun k_=>(w.heap.size≤k_)) ho75 (keep_size (w:=w) (g:=g) (row:=none) za24) (fun k_ h_=>h_)) (Kd.R_lt (za0 HO_53038006.out))) (keep_size (w:=w) (g:=g) (row:=none) za24))
               replace BK53001:=zk (zb BK53001.out hb)
               replace BK53037:=zk (zb BK53037.out hb)
               replace HB:=zk (below_step za36 hb)
               replace HO_53038006:=zk (Kd.R_elder' (za0 HO_53038006.out) (Kd.R_base ho75) hb)
               replace HI0:=zk (IsS69.below za33 hb)
               replace HK:=zk (KeepBut.trans za24 (KeepBut.of_below hb g none) (.inl rfl))
               clear hb ho75
               refine hK.out _ _ ⟨(blk_cell BK53037.out 0).trans rfl,(blk_cell BK53037.out 1).trans rfl,(blk_cell BK53037.out 2).trans rfl,(blk_cell BK53037.out 3).trans rfl,(blk_cell BK53037.out 4).trans rfl,(blk_cell BK53037.out 5).trans rfl,(blk_cell BK53037.out 6).trans rfl,(blk_cell BK53037.out 7).trans rfl⟩ (fun hHeld=>?_)
               clear hK K
               refine zno (some 68) ?_
               exact norm_ za88 (hCont (v53041) _ ⟨hHeld,za93,(za0 HO_53038006.out),(za1 BK53001.out),(za1 BK53037.out),za33,za24,za36⟩)
              ·skip
               refine Kd.R_lit_step (Kd.int .i64) _ 3 ?hg (N:=68) ?hd (xs:=([1,(-1),0,2]:List Int)) (inner:=[.int .i64 1,.int .i64 (-1),.int .i64 0,.int .i64 2]) (ok:=fun _=>True) (okp:=fun _=>True) ?hr ?hp (fun _ hk=>hk) trivial (Below.refl _ _) (Nat.le_refl _) (by simp) ?_;(case hd=>rfl);(case hg=>rfl);(case hr=>first|(go_simp;done)|(go_simp;rfl));(case hp=>exact (Reps.one (show Kd.M (Kd.int .i64) _ _ _ 1 [.int .i64 1] from rfl) (Reps.one (show Kd.M (Kd.int .i64) _ _ _ (-1) [.int .i64 (-1)] from rfl) (Reps.one (show Kd.M (Kd.int .i64) _ _ _ 0 [.int .i64 0] from rfl) (Reps.one (show Kd.M (Kd.int .i64) _ _ _ 2 [.int .i64 2] from rfl) (Reps.none _ _))))))
               intro v53041 w74 ho75 hb hg_ hnew_
               clear hg_ hnew_
               (first|rw [← Ny53040.out] at ho75|(simp only [Int.reduceToNat] at ho75;rw [← Ny53040.out] at ho75))
               have HO53042:=zk (Kd.R_lower (Kd.R_new' (Kd.R_newM (M:=fun k_=>(w.heap.size≤k_)) ho75 (keep_size (w:=w) (g:=g) (row:=none) za24) (fun k_ h_=>h_)) (Kd.R_lt (za0 HO_53038006.out))) (keep_size (w:=w) (g:=g) (row:=none) za24))
               replace BK53001:=zk (zb BK53001.out hb)
               replace BK53037:=zk (zb BK53037.out hb)
               replace HB:=zk (below_step za36 hb)
               replace HO_53038006:=zk (Kd.R_elder' (za0 HO_53038006.out) (Kd.R_base ho75) hb)
               replace HI0:=zk (IsS69.below za33 hb)
               replace HK:=zk (KeepBut.trans za24 (KeepBut.of_below hb g none) (.inl rfl))
               clear hb ho75
               refine hK.out _ _ ⟨(blk_cell BK53037.out 0).trans rfl,(blk_cell BK53037.out 1).trans rfl,(blk_cell BK53037.out 2).trans rfl,(blk_cell BK53037.out 3).trans rfl,(blk_cell BK53037.out 4).trans rfl,(blk_cell BK53037.out 5).trans rfl,(blk_cell BK53037.out 6).trans rfl,(blk_cell BK53037.out 7).trans rfl⟩ (fun hHeld=>?_)
               clear hK K
               refine zno (some 68) ?_
               refine zon 7 (some 66) HT_.out (fun K hK=>?_)
               refine goes_ Try.func63 (by kernel_rfl) rfl #[.bool (decide (t53038 > 0))] (by rfl) rfl rfl za4 ?_
               with_reducible refine (spec_l1Bit.calls (decide (t53038 > 0)) t53039 _ A69.out).mono ?_
               rintro e w' ⟨rfl,⟨nd,rfl⟩⟩
               refine ⟨_,rfl,?_⟩
               refine hK.out _ _ ⟨(blk_cell BK53037.out 0).trans rfl,(blk_cell BK53037.out 1).trans rfl,(blk_cell BK53037.out 2).trans rfl,(blk_cell BK53037.out 3).trans rfl,(blk_cell BK53037.out 4).trans rfl,(blk_cell BK53037.out 5).trans rfl,(blk_cell BK53037.out 6).trans rfl,(blk_cell BK53037.out 7).trans rfl⟩ (fun hHeld=>?_)
               clear hK K
               refine zno (some 66) ?_
               exact norm_ za88 (hCont (v53041) _ ⟨hHeld,za93,(za0 HO_53038006.out),(za1 BK53001.out),(za1 BK53037.out),za33,za24,za36⟩)
             ·skip
              refine Kd.R_lit_step (Kd.int .i64) _ 3 ?hg (N:=68) ?hd (xs:=([1,(-1),0,2]:List Int)) (inner:=[.int .i64 1,.int .i64 (-1),.int .i64 0,.int .i64 2]) (ok:=fun _=>True) (okp:=fun _=>True) ?hr ?hp (fun _ hk=>hk) trivial (Below.refl _ _) (Nat.le_refl _) (by simp) ?_;(case hd=>rfl);(case hg=>rfl);(case hr=>first|(go_simp;done)|(go_simp;rfl));(case hp=>exact (Reps.one (show Kd.M (Kd.int .i64) _ _ _ 1 [.int .i64 1] from rfl) (Reps.one (show Kd.M (Kd.int .i64) _ _ _ (-1) [.int .i64 (-1)] from rfl) (Reps.one (show Kd.M (Kd.int .i64) _ _ _ 0 [.int .i64 0] from rfl) (Reps.one (show Kd.M (Kd.int .i64) _ _ _ 2 [.int .i64 2] from rfl) (Reps.none _ _))))))
              intro v53041 w74 ho75 hb hg_ hnew_
              clear hg_ hnew_
              (first|rw [← Ny53040.out] at ho75|(simp only [Int.reduceToNat] at ho75;rw [← Ny53040.out] at ho75))
              have HO53042:=zk (Kd.R_lower (Kd.R_new' (Kd.R_newM (M:=fun k_=>(w.heap.size≤k_)) ho75 (keep_size (w:=w) (g:=g) (row:=none) za24) (fun k_ h_=>h_)) (Kd.R_lt (za0 HO_53038006.out))) (keep_size (w:=w) (g:=g) (row:=none) za24))
              replace BK53001:=zk (zb BK53001.out hb)
              replace BK53037:=zk (zb BK53037.out hb)
              replace HB:=zk (below_step za36 hb)
              replace HO_53038006:=zk (Kd.R_elder' (za0 HO_53038006.out) (Kd.R_base ho75) hb)
              replace HI0:=zk (IsS69.below za33 hb)
              replace HK:=zk (KeepBut.trans za24 (KeepBut.of_below hb g none) (.inl rfl))
              clear hb ho75
              refine hK.out _ _ ⟨(blk_cell BK53037.out 0).trans rfl,(blk_cell BK53037.out 1).trans rfl,(blk_cell BK53037.out 2).trans rfl,(blk_cell BK53037.out 3).trans rfl,(blk_cell BK53037.out 4).trans rfl,(blk_cell BK53037.out 5).trans rfl,(blk_cell BK53037.out 6).trans rfl,(blk_cell BK53037.out 7).trans rfl⟩ (fun hHeld=>?_)
              clear hK K
              refine zno (some 68) ?_
              refine zon 5 (some 64) HT_.out (fun K hK=>?_)
              refine goes_ Try.func18 (by kernel_rfl) rfl #[.string a1,.int .u8 (bt (⟨#[88,89,90]⟩:ByteArray) x8_3)] (by rfl) rfl rfl za4 ?_
              with_reducible refine (spec_CountByte.calls k3 a1 (bt (⟨#[88,89,90]⟩:ByteArray) x8_3) t53038 _ A68.out).mono ?_
              rintro e w' ⟨rfl,⟨nd,rfl⟩⟩
              refine ⟨_,rfl,?_⟩
              refine hK.out _ _ ⟨(blk_cell BK53037.out 0).trans rfl,(blk_cell BK53037.out 1).trans rfl,(blk_cell BK53037.out 2).trans rfl,(blk_cell BK53037.out 3).trans rfl,(blk_cell BK53037.out 4).trans rfl,(blk_cell BK53037.out 5).trans rfl,(blk_cell BK53037.out 6).trans rfl,(blk_cell BK53037.out 7).trans rfl⟩ (fun hHeld=>?_)
              clear hK K
              refine zno (some 64) ?_
              refine zy 6 (some 65) HT_.out ?_
              refine zon 7 (some 66) HT_.out (fun K hK=>?_)
              refine goes_ Try.func63 (by kernel_rfl) rfl #[.bool (decide (t53038 > 0))] (by rfl) rfl rfl za4 ?_
              with_reducible refine (spec_l1Bit.calls (decide (t53038 > 0)) t53039 _ A69.out).mono ?_
              rintro e w' ⟨rfl,⟨nd,rfl⟩⟩
              refine ⟨_,rfl,?_⟩
              refine hK.out _ _ ⟨(blk_cell BK53037.out 0).trans rfl,(blk_cell BK53037.out 1).trans rfl,(blk_cell BK53037.out 2).trans rfl,(blk_cell BK53037.out 3).trans rfl,(blk_cell BK53037.out 4).trans rfl,(blk_cell BK53037.out 5).trans rfl,(blk_cell BK53037.out 6).trans rfl,(blk_cell BK53037.out 7).trans rfl⟩ (fun hHeld=>?_)
              clear hK K
              refine zno (some 66) ?_
              exact norm_ za88 (hCont (v53041) _ ⟨hHeld,za93,(za0 HO_53038006.out),(za1 BK53001.out),(za1 BK53037.out),za33,za24,za36⟩)
            rintro v53041 w76 ⟨hS_,h0_,h1_,h2_,h3_,h4_,h5_,h6_⟩
            have n0_:Aside0 (Kd.R (Kd.int .i64) 3 w76 w.heap.size (fun k_=>(w.heap.size≤k_)∧some k_ ≠ (.slice Ao72 x53038006_3.length co72:Value).ownBlock) v53041 y53040):=⟨h0_⟩
            have n1_:Aside0 (Kd.R (Kd.int .i64) 3 w76 w.heap.size (fun k_=>(w.heap.size≤k_)∧some k_ ≠ (v53041:Value).ownBlock) (.slice Ao72 x53038006_3.length co72) x53038006_3):=⟨h1_⟩
            have n2_:Aside0 (w76.heap[gb53001]? = some (.cells #[.int .i64 0,.string (⟨#[]⟩:ByteArray),.string (⟨#[]⟩:ByteArray),.int .i64 0,.string (⟨#[]⟩:ByteArray),.slice none 0 0,.slice none 0 0,.int .i64 0] 61 (0,0))):=⟨h2_⟩
            have n3_:Aside0 (w76.heap[gb53037]? = some (.cells #[.int .i64 5,.string (⟨#[]⟩:ByteArray),.string (⟨#[]⟩:ByteArray),.int .i64 0,.string (⟨#[]⟩:ByteArray),.slice none 0 0,.slice Ao72 x53038006_3.length co72,.int .i64 t53034] 61 (0,0))):=⟨h3_⟩
            have n4_:Aside0 (IsS69 w0 w76 g s0_0 x1001_3 x1002_3):=⟨h4_⟩
            have n5_:Aside0 (KeepBut w w76 g none):=⟨h5_⟩
            have n6_:Aside0 (Below w0.heap.size w0 w76):=⟨h6_⟩
            clear HO_53038006
            clear BK53001
            clear BK53037
            clear HI0
            clear HK
            clear HB
            clear h0_ h1_ h2_ h3_ h4_ h5_ h6_
            have HO53042:=n0_
            have HO_53038006:=n1_
            have BK53001:=n2_
            have BK53037:=n3_
            have HI0:=n4_
            have HK:=n5_
            have HB:=n6_
            clear n0_ n1_ n2_ n3_ n4_ n5_ n6_
            have hHeld:w76.cell? ⟨gb53037,0,none⟩=some (.int .i64 5)∧w76.cell? ⟨gb53037,1,none⟩=some (.string (⟨#[]⟩:ByteArray))∧w76.cell? ⟨gb53037,2,none⟩=some (.string (⟨#[]⟩:ByteArray))∧w76.cell? ⟨gb53037,3,none⟩=some (.int .i64 0)∧w76.cell? ⟨gb53037,4,none⟩=some (.string (⟨#[]⟩:ByteArray))∧w76.cell? ⟨gb53037,5,none⟩=some (.slice none 0 0)∧w76.cell? ⟨gb53037,6,none⟩=some (.slice Ao72 x53038006_3.length co72)∧w76.cell? ⟨gb53037,7,none⟩=some (.int .i64 t53034):=hS_
            obtain ⟨Ao77,co77,eo77⟩:=Kd.R_slice HO53042.out
            (first|subst eo77|(injection eo77 with f1_ f2_ f3_;have f4_:=f1_.symm;have f5_:=f3_.symm;clear f1_ f2_ f3_;subst f4_;subst f5_))
            refine norm_ (a':=?_) ?_ ?_
            rotate_left
            ·simp only [putAll,Act.put,zt,zu,zv]
             rfl
            refine zon 10 (some 69) HT_.out (fun K hK=>?_)
            refine goes_ Try.func61 (by kernel_rfl) rfl #[.pointer (some ⟨g,0,none⟩),.slice Ao77 y53040.length co77] (by rfl) rfl rfl za4 ?_
            with_reducible refine (spec_l1PickInt.calls g s0_0 x1001_3 x1002_3 _ _ y53040 t53043 t53044 t53045 w0 _ za33 za36 ?side3 ?side4 ?side5 A70.out).mono ?_
            (case side3=>repeat (first|exact (Kd.R_reads' HO53042.out).2.2|(with_reducible refine Kd.C_alloc ?_ _)|(with_reducible refine Kd.C_drewN ?_ _)|(with_reducible refine Kd.C_drew ?_)))
            (case side4=>exact (Kd.R_reads' HO53042.out).2.1)
            (case side5=>exact far_slice (IsS69.own_ne HI0.out HO53042.out (by decide)))
            rintro e w78 ⟨rfl,hi,hb,hk⟩
            refine ⟨_,rfl,?_⟩
            replace HO_53038006:=zk (Kd.R_mono (Kd.R_keep (IsS69.apart (show IsS69 w0 _ g s0_0 x1001_3 x1002_3 from za33) (za0 HO_53038006.out) (by decide)) hk (fun _ h=>h.2)) (fun _ h=>h.1))
            replace BK53001:=zk (KeepBut.blk hk (g':=gb53001) (o:=.cells #[.int .i64 0,.string (⟨#[]⟩:ByteArray),.string (⟨#[]⟩:ByteArray),.int .i64 0,.string (⟨#[]⟩:ByteArray),.slice none 0 0,.slice none 0 0,.int .i64 0] 61 (0,0)) (za1 BK53001.out) NB53001_0.out (by simp))
            replace BK53037:=zk (KeepBut.blk hk (g':=gb53037) (o:=.cells #[.int .i64 5,.string (⟨#[]⟩:ByteArray),.string (⟨#[]⟩:ByteArray),.int .i64 0,.string (⟨#[]⟩:ByteArray),.slice none 0 0,.slice Ao72 x53038006_3.length co72,.int .i64 t53034] 61 (0,0)) (za1 BK53037.out) NB53037_0.out (by simp))
            replace HO53042:=zk (Kd.R_mono (Kd.R_keep (IsS69.apart (show IsS69 w0 _ g s0_0 x1001_3 x1002_3 from za33) (za0 HO53042.out) (by decide)) hk (fun _ h=>h.2)) (fun _ h=>h.1))
            replace HK:=zk (KeepBut.trans za24 hk (.inl rfl))
            replace HB:=zk (hb)
            replace HI0:=zk (hi)
            (try clear hb)
            (try clear hb2)
            (try clear hk)
            (try clear hi)
            refine hK.out _ _ ⟨(blk_cell BK53037.out 0).trans rfl,(blk_cell BK53037.out 1).trans rfl,(blk_cell BK53037.out 2).trans rfl,(blk_cell BK53037.out 3).trans rfl,(blk_cell BK53037.out 4).trans rfl,(blk_cell BK53037.out 5).trans rfl,(blk_cell BK53037.out 6).trans rfl,(blk_cell BK53037.out 7).trans rfl⟩ (fun hHeld=>?_)
            clear hK K
            refine zno (some 69) ?_
            refine zy 11 (some 70) HT_.out ?_
            refine zon 12 (some 71) HT_.out (fun K hK=>?_)
            refine value_ (w1:=?_) (v:=?_) (by rfl) rfl ?_ ?_
            rotate_left 2
            ·go_simp
             constructor
             ·rfl
             ·rfl
            refine hK.out _ _ ⟨(blk_cell (blk_alloc BK53037.out _) 0).trans rfl,(blk_cell (blk_alloc BK53037.out _) 1).trans rfl,(blk_cell (blk_alloc BK53037.out _) 2).trans rfl,(blk_cell (blk_alloc BK53037.out _) 3).trans rfl,(blk_cell (blk_alloc BK53037.out _) 4).trans rfl,(blk_cell (blk_alloc BK53037.out _) 5).trans rfl,(blk_cell (blk_alloc BK53037.out _) 6).trans rfl,(blk_cell (blk_alloc BK53037.out _) 7).trans rfl⟩ (fun hHeld=>?_)
            clear hK K
            refine zno (some 71) ?_
            refine zon 13 (some 72) HT_.out (fun K hK=>?_)
            refine Kd.R_append_step (Kd.int .i64) w.heap.size (by rfl) (.tmp 60) (.tmp 71) 59 3 (.int .i64 0) 8 rfl Try.underlying59 info3 rfl (by decide) (by omega) (.slice Ao72 x53038006_3.length co72) x53038006_3 (wrap64 (t53039 * t53043)) [.int .i64 (wrap64 (t53039 * t53043))] (fun k_=>(w.heap.size≤k_)∧some k_ ≠ (.slice Ao77 y53040.length co77:Value).ownBlock) (fun _=>False) rfl rfl ?aP (fun _ hk=>hk.elim) ?aF ?aO (Below.refl _ _) ?aS ?aL ?_
            (case aP=>exact rfl)
            (case aF=>exact (fun k_ hk=>⟨(Nat.le_trans (keep_size (w:=w) (g:=g) (row:=none) za24) hk),Kd.fresh' (Kd.R_lt (za0 HO53042.out)) k_ hk⟩))
            (case aO=>exact (za0 HO_53038006.out))
            (case aS=>exact (keep_size (w:=w) (g:=g) (row:=none) za24))
            (case aL=>have:=LMc71.out;omega)
            intro v53047 w79 ho hb hg hat
            rw [← Ny53046.out] at ho
            replace BK53001:=zk (blk_grown (g:=gb53001) (o:=.cells #[.int .i64 0,.string (⟨#[]⟩:ByteArray),.string (⟨#[]⟩:ByteArray),.int .i64 0,.string (⟨#[]⟩:ByteArray),.slice none 0 0,.slice none 0 0,.int .i64 0] 61 (0,0)) (za1 BK53001.out) hg (Kd.R_ne HO_53038006.out BK53001.out (by decide)))
            replace BK53037:=zk (blk_grown (g:=gb53037) (o:=.cells #[.int .i64 5,.string (⟨#[]⟩:ByteArray),.string (⟨#[]⟩:ByteArray),.int .i64 0,.string (⟨#[]⟩:ByteArray),.slice none 0 0,.slice Ao72 x53038006_3.length co72,.int .i64 t53034] 61 (0,0)) (za1 BK53037.out) hg (Kd.R_ne HO_53038006.out BK53037.out (by decide)))
            replace HO53042:=zk (Kd.R_after (ok:=(fun k_=>(w.heap.size≤k_))) (za0 HO53042.out) hg hat)
            replace HB:=zk (below_weaken za36 HL.out hb)
            replace HK:=zk (KeepBut.trans za24 (KeepBut.of_grown hg g) (Kd.R_base2 HO_53038006.out))
            have HO53048:=zk (ho)
            replace HI0:=zk (IsS69.grown za33 hg (IsS69.own_ne HI0.out HO_53038006.out (by decide)))
            clear HO_53038006
            clear ho hb hg hat
            obtain ⟨Ao80,co80,eo80⟩:=Kd.R_slice HO53048.out
            (first|subst eo80|(injection eo80 with f1_ f2_ f3_;have f4_:=f1_.symm;have f5_:=f3_.symm;clear f1_ f2_ f3_;subst f4_;subst f5_))
            refine hK.out _ _ ⟨(blk_cell BK53037.out 0).trans rfl,(blk_cell BK53037.out 1).trans rfl,(blk_cell BK53037.out 2).trans rfl,(blk_cell BK53037.out 3).trans rfl,(blk_cell BK53037.out 4).trans rfl,(blk_cell BK53037.out 5).trans rfl,(blk_cell BK53037.out 6).trans rfl,(blk_cell BK53037.out 7).trans rfl⟩ (fun hHeld=>?_)
            clear hK K
            refine zno (some 72) ?_
            refine zy 14 (some 73) HT_.out ?_
            refine last_ (i:=15) (N:=none) #[true,true,true,true,true,true,true,true,true,true,true,true,true,true,true,true] rfl rfl (one_of HT_.out (by kernel_rfl)) (by decide) (fun K hK=>?_)
            have hs81:w79.cell? ⟨gb53037,6,none⟩=some (.slice Ao72 x53038006_3.length co72):=(blk_cell BK53037.out 6).trans rfl
            have hfs81:=blk_frozen BK53037.out 6
            have hns81_0:=NB53001_53037.out
            have hms81_0:=NB53037_53001.out
            refine skip_ (w1:=?_) (by rfl) rfl ?_ ?_
            rotate_left
            ·go_simp
             rfl
            refine hK.out _ _ ?_
            clear hK K
            refine done_ (done_of HT_.out (by kernel_rfl)) ?_
            try go_wp2
            go_roundg k3
            case measure=>have:=HJ3.out;have:=HJ22.out;have:=HK3.out;omega
            case rel=>exact ⟨(wrap64 (x8_3+1)),(t53044),(t53045),(y53046),(.slice Ao80 y53046.length co80),za8,H',⟨by have:=HJ3.out;have:=HJ22.out;have:=HK3.out;omega⟩,⟨by (with_reducible repeat (first|apply Kd.R_alloc|apply Kd.R_drewN|apply Kd.R_drew));exact Kd.R_mono (zfR (Kd.R_types HO53048.out BK53037.out (by decide))) (fun _ hk=>hk.1.1)⟩,⟨by (with_reducible repeat (first|refine blk_drewN ?_ _|refine blk_drew ?_|refine blk_alloc ?_ _));refine blk_far ?_ NB53001_53037.out _;(with_reducible repeat (first|refine blk_drewN ?_ _|refine blk_drew ?_|refine blk_alloc ?_ _));exact BK53001.out⟩,⟨zpu BK53037.out⟩,⟨za33⟩,⟨za24⟩,⟨za36⟩⟩
           ·rw [if_neg c71] at H
            exact absurd H (by simp)
           ·rw [if_neg c66] at H
            exact absurd H (by simp)
           ·rw [if_neg c65] at H
            have c65b0:=zdnl c65
            clear c65
            simp only [Option.some.injEq,Prod.mk.injEq] at H
            obtain ⟨rfl,rfl,rfl,rfl,rfl,rfl,rfl,rfl,rfl,rfl⟩:=H
            have hnb82:=NB53037_53001.out
            have hnc82:=NB53001_53037.out
            have hnb83:=NB53037_0.out
            have hnc83:=NB0_53037.out
            obtain ⟨hcz84_0,hcz84_1,hcz84_2,hcz84_3,hcz84_4,hcz84_5,hcz84_6,hcz84_7,hfz84_0,hfz84_1,hfz84_2,hfz84_3,hfz84_4,hfz84_5,hfz84_6,hfz84_7⟩:=blk8 BK53037.out
            have hnb85:=NB53001_0.out
            have hnc85:=NB0_53001.out
            obtain ⟨hcz86_0,hcz86_1,hcz86_2,hcz86_3,hcz86_4,hcz86_5,hcz86_6,hcz86_7,hfz86_0,hfz86_1,hfz86_2,hfz86_3,hfz86_4,hfz86_5,hfz86_6,hfz86_7⟩:=blk8 BK53001.out
            obtain ⟨Ao87,co87,eo87⟩:=Kd.R_slice HO_53038006.out
            subst eo87
            go_wp2
            refine bodyPost_ret (results_cell_row rfl _ _ gb53001 61 #[.int .i64 5,.string (⟨#[]⟩:ByteArray),.string (⟨#[]⟩:ByteArray),.int .i64 0,.string (⟨#[]⟩:ByteArray),.slice none 0 0,.slice Ao87 x53038006_3.length co87,.int .i64 t53034] (0,0) _ rfl (zpu BK53001.out) Try.underlying61 rfl (by kernel_rfl)) rfl ?_
            exact ⟨_,_,za9,za41,by (with_reducible repeat (first|apply Kd.R_alloc|apply Kd.R_drewN|apply Kd.R_drew));exact Kd.R_mono (zfR (zfR (zfR (zfR (zfR (zfR (zfR (zfR (Kd.R_types HO_53038006.out BK53001.out (by decide)))))))))) (fun _ hk=>hk.1),za33,za36,za24⟩
end Go.Proofs.Ytgajchjnljekgaa.A
