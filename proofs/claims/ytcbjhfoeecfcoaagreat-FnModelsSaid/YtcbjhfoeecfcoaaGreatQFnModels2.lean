/- FnModels: what its proof needs, put together by this session's program wip/merge.py out of the texts that wip/xp.py printed and of this session's own. -/
import Derived.Test.YtcbjhfoeecfcoaaGreatQFnModels1
import Derived.Test.YtcbjhfoeecfcoaaGreatProg
import Derived.Shelf.Abstract
import Derived.Deep.LoopGhost
import Derived.Deep.QuietTactic
import Derived.Deep.RegionHeld3
import Derived.BigQuiet
import Derived.Below
import Derived.Outline
set_option linter.unusedVariables false
set_option linter.unusedSimpArgs false
set_option linter.unusedSectionVars false
set_option maxHeartbeats 8000000
set_option maxRecDepth 100000
namespace Go.Proofs.YtcbjhfoeecfcoaaGreat.A
open Go.RowKit YtcbjhfoeecfcoaaGreat.Ext YtcbjhfoeecfcoaaGreatW.PrintWords YtcbjhfoeecfcoaaGreatW.PrintLast YtcbjhfoeecfcoaaGreatW.PrintMore
attribute [local go_sem] max2_int min2_int max_two min_two max_three min_three max_four min_four
mutual
def spec_l3Draw.j0:Nat→Int→Bool→List Int→Int→Int→Option (Int × ByteArray × (List (S54)) × Int × Int)
 | 0,_,_,_,_,_=>none
 | k+1,x1,x13,x1000,x1001,x1002=>if x13=true then ((spec_l1Below.f x1000 x1001 x1002 8).bind fun bt88005=>(if bt88005.1=0 then (some (2,(⟨#[]⟩:ByteArray),([]:List (S54)),bt88005.2.1,bt88005.2.2)) else (if bt88005.1=1 then (some (4,(⟨#[]⟩:ByteArray),([]:List (S54)),bt88005.2.1,bt88005.2.2)) else (if bt88005.1=2 then (some (1,(⟨#[]⟩:ByteArray),([]:List (S54)),bt88005.2.1,bt88005.2.2)) else ((spec_l1Pick.f x1000 bt88005.2.1 bt88005.2.2 (([⟨#[97]⟩,⟨#[97]⟩,⟨#[98]⟩,⟨#[98]⟩,⟨#[99]⟩]:List ByteArray))).bind fun bt88011=>(some (3,bt88011.1,([]:List (S54)),bt88011.2.1,bt88011.2.2))))))) else ((spec_l1Below.f x1000 x1001 x1002 10).bind fun bt88014=>(if bt88014.1=0 then (spec_l3Draw.j1 k x1 bt88014.1 (bt88014.1 == 0) x1000 bt88014.2.1 bt88014.2.2) else (if bt88014.1=1 then (spec_l3Draw.j1 k x1 bt88014.1 (bt88014.1 == 1) x1000 bt88014.2.1 bt88014.2.2) else (spec_l3Draw.j1 k x1 bt88014.1 (bt88014.1 == 2) x1000 bt88014.2.1 bt88014.2.2))))
def spec_l3Draw.j1:Nat→Int→Int→Bool→List Int→Int→Int→Option (Int × ByteArray × (List (S54)) × Int × Int)
 | 0,_,_,_,_,_,_=>none
 | k+1,x1,x30,x31,x1000,x1001,x1002=>if x31=true then ((spec_l3Draw.f k x1000 x1001 x1002 (wrap64 (x1 - 1))).bind fun bt88017=>(some (8,(⟨#[]⟩:ByteArray),(([(⟨bt88017.1,bt88017.2.1,bt88017.2.2.1⟩:S54)]:List (S54))),bt88017.2.2.2.1,bt88017.2.2.2.2))) else (if x30=3 then ((spec_l3Draw.f k x1000 x1001 x1002 (wrap64 (x1 - 1))).bind fun bt88027=>(some (9,(⟨#[]⟩:ByteArray),(([(⟨bt88027.1,bt88027.2.1,bt88027.2.2.1⟩:S54)]:List (S54))),bt88027.2.2.2.1,bt88027.2.2.2.2))) else (if x30=4 then ((spec_l3Draw.f k x1000 x1001 x1002 (wrap64 (x1 - 1))).bind fun bt88037=>((spec_l3Draw.f k x1000 bt88037.2.2.2.1 bt88037.2.2.2.2 (wrap64 (x1 - 1))).bind fun bt88045=>(some (7,(⟨#[]⟩:ByteArray),(([(⟨bt88037.1,bt88037.2.1,bt88037.2.2.1⟩:S54),(⟨bt88045.1,bt88045.2.1,bt88045.2.2.1⟩:S54)]:List (S54))),bt88045.2.2.2.1,bt88045.2.2.2.2)))) else (if x30=5 then (spec_l3Draw.j2 k x1 (x30 == 5) x1000 x1001 x1002) else (spec_l3Draw.j2 k x1 (x30 == 6) x1000 x1001 x1002))))
def spec_l3Draw.j2:Nat→Int→Bool→List Int→Int→Int→Option (Int × ByteArray × (List (S54)) × Int × Int)
 | 0,_,_,_,_,_=>none
 | k+1,x1,x62,x1000,x1001,x1002=>if x62=true then ((spec_l3Draw.f k x1000 x1001 x1002 (wrap64 (x1 - 1))).bind fun bt88055=>((spec_l3Draw.f k x1000 bt88055.2.2.2.1 bt88055.2.2.2.2 (wrap64 (x1 - 1))).bind fun bt88063=>(some (6,(⟨#[]⟩:ByteArray),(([(⟨bt88055.1,bt88055.2.1,bt88055.2.2.1⟩:S54),(⟨bt88063.1,bt88063.2.1,bt88063.2.2.1⟩:S54)]:List (S54))),bt88063.2.2.2.1,bt88063.2.2.2.2)))) else ((spec_l3Draw.f k x1000 x1001 x1002 (wrap64 (x1 - 1))).bind fun bt88073=>((spec_l3Draw.f k x1000 bt88073.2.2.2.1 bt88073.2.2.2.2 (wrap64 (x1 - 1))).bind fun bt88081=>(some (5,(⟨#[]⟩:ByteArray),(([(⟨bt88073.1,bt88073.2.1,bt88073.2.2.1⟩:S54),(⟨bt88081.1,bt88081.2.1,bt88081.2.2.1⟩:S54)]:List (S54))),bt88081.2.2.2.1,bt88081.2.2.2.2))))
def spec_l3Draw.f:Nat→List Int→Int→Int→Int→Option (Int × ByteArray × (List (S54)) × Int × Int)
 | 0,_,_,_,_=>none
 | k+1,s0_0,s0_1,s0_2,a1=>if a1 < 2 then (spec_l3Draw.j0 k a1 true s0_0 s0_1 s0_2) else ((spec_l1Once.f s0_0 s0_1 s0_2 5).bind fun bt88002=>(spec_l3Draw.j0 k a1 bt88002.1 s0_0 bt88002.2.1 bt88002.2.2))
end
def spec_l3Draw.T19:Bool × List (List Nat × List Nat):=(true,[([],[]),([],[]),([],[]),([2],[2]),([1,3],[1,3]),([0,4],[0,4]),([5],[5]),([6,4,0,1,2,3,4,5,6],[6])])
def spec_l3Draw.B19:List Nat:=[0,0,0,4,14,31,63,127]
theorem spec_l3Draw.tab19:rtab .any (opsOf Tryz.f88 19)=spec_l3Draw.T19:=by kernel_rfl
theorem spec_l3Draw.bits19:waitsOk spec_l3Draw.T19.2 spec_l3Draw.B19=true:=by kernel_rfl
def spec_l3Draw.T23:Bool × List (List Nat × List Nat):=(true,[([],[]),([],[]),([],[]),([2],[2]),([1,3],[1,3]),([0,4],[0,4]),([5],[5]),([6,4,0,1,2,3,4,5,6],[6])])
def spec_l3Draw.B23:List Nat:=[0,0,0,4,14,31,63,127]
theorem spec_l3Draw.tab23:rtab .any (opsOf Tryz.f88 23)=spec_l3Draw.T23:=by kernel_rfl
theorem spec_l3Draw.bits23:waitsOk spec_l3Draw.T23.2 spec_l3Draw.B23=true:=by kernel_rfl
def spec_l3Draw.T25:Bool × List (List Nat × List Nat):=(true,[([],[]),([],[]),([],[]),([2],[2]),([1,3],[1,3]),([0,4],[0,4]),([5],[5]),([6,4,0,1,2,3,4,5,6],[6])])
def spec_l3Draw.B25:List Nat:=[0,0,0,4,14,31,63,127]
theorem spec_l3Draw.tab25:rtab .any (opsOf Tryz.f88 25)=spec_l3Draw.T25:=by kernel_rfl
theorem spec_l3Draw.bits25:waitsOk spec_l3Draw.T25.2 spec_l3Draw.B25=true:=by kernel_rfl
theorem spec_l3Draw.calls (k:Nat):∀ (g:Nat) (s0_0:List Int) (s0_1:Int) (s0_2:Int) (a1:Int) (r1:Int) (r2:ByteArray) (r3:List (S54)) (r4:Int) (r5:Int) (w0 w:World) (hI:IsS77 w0 w g s0_0 s0_1 s0_2) (hB:Below w0.heap.size w0 w) (h:spec_l3Draw.f k s0_0 s0_1 s0_2 a1=some (r1,r2,r3,r4,r5)),
   Calls Tryz.prog 88 #[.pointer (some ⟨g,0,none⟩),.int .i64 a1] w fun e w'=>∃ v2_:Value,e = .returned (.agg #[.int .i64 r1,.string r2,v2_])∧Kd.N k54 54 w' w.heap.size (fun k_=>(w.heap.size≤k_)) v2_ r3∧IsS77 w0 w' g s0_0 r4 r5∧Below w0.heap.size w0 w'∧KeepBut w w' g none:=by
 induction k using Nat.strongRecOn with
 | _ k ih =>
 intro g s0_0 s0_1 s0_2 a1 r1 r2 r3 r4 r5 w0 w hI hB h
 cases k with
 | zero=>exact absurd h (by simp [spec_l3Draw.f])
 | succ k =>
 simp only [spec_l3Draw.f] at h
 have hu54:=Tryz.underlying54
 have HI0:=zk hI
 have HK:=zk (KeepBut.refl w g none)
 have HL:=zk hB.size
 clear hI
 have HW0:=zk hB.size
 have HB:=zk hB
 clear hB
 have H:=h
 clear h
 have HC3:=zk H
 clear H
 go_enter Tryz.func88,Tryz.ntmps88
 go_upto_region 1 with ((((with_reducible refine gate_dst (N:=4) rfl ?_);refine zE (cs:=#[.int .i64 0,.string ⟨#[]⟩,.slice none 0 0]) (t:=54) ?_;intro gb1 hg w4 hbox hb;replace HB:=yB HB hb;have BK1:=zk hbox;have GW1:=zk ((by rw [hg];exact (keep_size (w:=w) (g:=g) (row:=none) za16):w.heap.size≤gb1));have GE1:=zk ((Nat.le_trans HW0.out (by rw [hg];exact (keep_size (w:=w) (g:=g) (row:=none) za16):w.heap.size≤gb1):w0.heap.size≤gb1));have NB0_1:=zk (zm hg (IsS77.lt (show IsS77 w0 _ g s0_0 s0_1 s0_2 from za27)));have NB1_0:=zk (zM hg (IsS77.lt (show IsS77 w0 _ g s0_0 s0_1 s0_2 from za27)));replace HI0:=zk (IsS77.below za27 hb);replace HK:=yk HK hb;clear hb hbox hg)))
 (try simp only [Act.put,zt,zu,zv])
 go_cut [13] (fun v13 wc=>∃ (kq:Nat) (x13_2:Bool) (x1001_2:Int) (x1002_2:Int),v13 = .bool x13_2∧Aside0 (spec_l3Draw.j0 kq a1 x13_2 s0_0 x1001_2 x1002_2=some (r1,r2,r3,r4,r5))∧Aside0 (kq≤k)∧Aside0 (wc.heap[gb1]? = some (.cells #[.int .i64 0,.string ⟨#[]⟩,(.slice none 0 0)] 54 (0,0)))∧Aside0 (IsS77 w0 wc g s0_0 x1001_2 x1002_2)∧Aside0 (KeepBut w wc g none)∧Aside0 (Below w0.heap.size w0 wc))
 case first =>
  have H:=HC3.out
  clear HC3
  by_cases c5:a1 < 2
  · rw [if_pos c5] at H
    have c5b0:=zdl c5
    clear c5
    ((skip))
    have H':=zk H
    clear H
    go_wp2
    go_meet
    case rel=>exact ⟨_,(true),(s0_1),(s0_2),za33,H',⟨by (omega)⟩,⟨za3 BK1.out⟩,⟨za13⟩,⟨za12⟩,⟨za18⟩⟩
  · rw [if_neg c5] at H
    have c5b0:=zdnl c5
    clear c5
    ((skip))
    obtain ⟨⟨t2,t3,t4⟩,A6,H⟩:=zO H
    try dsimp only at H
    have H':=zk H
    clear H
    go_wp2_with (((go_at_call 37;(with_reducible refine (spec_l1Once.calls g s0_0 s0_1 s0_2 5 t2 t3 t4 w0 _ za13 za18 A6.out).mono ?_);rintro e w7 ⟨rfl,hi,hb,hk⟩;replace BK1:=yq hk BK1 NB1_0;replace HK:=yK HK hk;replace HB:=zk hb;replace HI0:=zk hi;(try clear hb hk hi))))
    go_meet
    case rel=>exact ⟨_,(t2),(t3),(t4),za33,H',⟨by (omega)⟩,⟨za3 BK1.out⟩,⟨za13⟩,⟨za12⟩,⟨za18⟩⟩
 case rest =>
  clear HC3
  obtain ⟨kq,x13_2,x1001_2,x1002_2,rfl,HA,HJ2,BK1,HI0,HK,HB⟩:=hcut
  cases kq with
  | zero=>exact absurd HA.out (by simp [spec_l3Draw.j0])
  | succ kj2 =>
   have H:=HA.out
   clear HA
   simp only [spec_l3Draw.j0] at H
   by_cases c8:x13_2=true
   subst c8
   rw [if_pos rfl] at H
   try dsimp only at H
   obtain ⟨⟨t5,t6,t7⟩,A9,H⟩:=zO H
   try dsimp only at H
   by_cases c10:t5=0
   rw [if_pos c10] at H
   have c10b0:=zbt c10
   have c10b1:=zqn c10
   clear c10
   have fin1_:=zk trivial
   rotate_left
   rw [if_neg c10] at H
   have c10b0:=zbn c10
   have c10b1:=zqt c10
   by_cases c14:t5=1
   rw [if_pos c14] at H
   have c14b0:=zbt c14
   have c14b1:=zqn c14
   clear c14
   have fin2_:=zk trivial
   rotate_left
   rw [if_neg c14] at H
   have c14b0:=zbn c14
   have c14b1:=zqt c14
   by_cases c18:t5=2
   rw [if_pos c18] at H
   have c18b0:=zbt c18
   have c18b1:=zqn c18
   clear c18
   have fin3_:=zk trivial
   rotate_left
   rw [if_neg c18] at H
   have c18b0:=zbn c18
   have c18b1:=zqt c18
   obtain ⟨y88008,hy88008⟩:∃ y_:List ByteArray,y_=(([⟨#[97]⟩,⟨#[97]⟩,⟨#[98]⟩,⟨#[98]⟩,⟨#[99]⟩]:List ByteArray)):=⟨_,rfl⟩
   replace H:((spec_l1Pick.f s0_0 t6 t7 y88008).bind fun bt11=>(some (3,bt11.1,([]:List (S54)),bt11.2.1,bt11.2.2)))=some (r1,r2,r3,r4,r5):=by ((rw [hy88008];with_reducible exact H))
   have Ny8:=zk hy88008
   clear hy88008
   obtain ⟨⟨t11,t12,t13⟩,A22,H⟩:=zO H
   try dsimp only at H
   have fin0_:=zk trivial
   rotate_left
   · replace c8:=Bool.eq_false_iff.mpr c8
     subst c8
     rw [if_neg zff] at H
     try dsimp only at H
     obtain ⟨⟨t14,t15,t16⟩,A30,H⟩:=zO H
     try dsimp only at H
     have HC31:=zk H
     clear H
     go_upto_if 31 with ((((with_reducible refine gate_callee (f:=42) rfl ?_);refine zg (some 30) Tryz.func42 #[.pointer (some ⟨g,0,none⟩),.int .i64 10] rfl za11 ?_;(with_reducible refine (spec_l1Below.calls g s0_0 x1001_2 x1002_2 10 t14 t15 t16 w0 _ za13 za18 A30.out).mono ?_);rintro e w32 ⟨rfl,hi,hb,hk⟩;refine ⟨_,rfl,?_⟩;replace BK1:=yq hk BK1 NB1_0;replace HK:=yK HK hk;replace HB:=zk hb;replace HI0:=zk hi;(try clear hb hk hi))))
     (try simp only [Act.put,zt,zu,zv])
     go_cut [31] (fun v31 wc=>∃ (kq:Nat) (x31_30:Bool),v31 = .bool x31_30∧Aside0 (spec_l3Draw.j1 kq a1 t14 x31_30 s0_0 t15 t16=some (r1,r2,r3,r4,r5))∧Aside0 (kq≤kj2)∧Aside0 (wc.heap[gb1]? = some (.cells #[.int .i64 0,.string ⟨#[]⟩,(.slice none 0 0)] 54 (0,0)))∧Aside0 (IsS77 w0 wc g s0_0 t15 t16)∧Aside0 (KeepBut w wc g none)∧Aside0 (Below w0.heap.size w0 wc))
     case first =>
      have H:=HC31.out
      clear HC31
      by_cases c33:t14=0
      · rw [if_pos c33] at H
        have c33b0:=zbt c33
        have c33b1:=zqn c33
        clear c33
        ((rw [c33b0]))
        have H':=zk H
        clear H
        go_wp2
        go_meet
        case rel=>exact ⟨_,((t14 == 0)),za33,H',⟨by have:=HJ2.out;(omega)⟩,⟨za3 BK1.out⟩,⟨za13⟩,⟨za12⟩,⟨za18⟩⟩
      rw [if_neg c33] at H
      have c33b0:=zbn c33
      have c33b1:=zqt c33
      ((rw [c33b0]))
      by_cases c34:t14=1
      · rw [if_pos c34] at H
        have c34b0:=zbt c34
        have c34b1:=zqn c34
        clear c34
        have H':=zk H
        clear H
        go_wp2
        go_meet
        case rel=>exact ⟨_,((t14 == 1)),za33,H',⟨by have:=HJ2.out;(omega)⟩,⟨za3 BK1.out⟩,⟨za13⟩,⟨za12⟩,⟨za18⟩⟩
      · rw [if_neg c34] at H
        have c34b0:=zbn c34
        have c34b1:=zqt c34
        have H':=zk H
        clear H
        go_wp2
        go_meet
        case rel=>exact ⟨_,((t14 == 2)),za33,H',⟨by have:=HJ2.out;(omega)⟩,⟨za3 BK1.out⟩,⟨za13⟩,⟨za12⟩,⟨za18⟩⟩
     case rest =>
      clear HC31
      try clear c8
      obtain ⟨kq,x31_30,rfl,HA,HJ30,BK1,HI0,HK,HB⟩:=hcut
      cases kq with
      | zero=>exact absurd HA.out (by simp [spec_l3Draw.j1])
      | succ kj30 =>
       have H:=HA.out
       clear HA
       simp only [spec_l3Draw.j1] at H
       by_cases c35:x31_30=true
       · subst c35
         rw [if_pos rfl] at H
         try dsimp only at H
         obtain ⟨⟨t17,t18,t19,t22,t23⟩,A36,H⟩:=zO H
         try dsimp only at H
         obtain ⟨y88024,hy88024⟩:∃ y_:List (S54),y_=(([(⟨t17,t18,t19⟩:S54)]:List (S54))):=⟨_,rfl⟩
         replace H:(some (8,(⟨#[]⟩:ByteArray),y88024,t22,t23))=some (r1,r2,r3,r4,r5):=by ((rw [hy88024];with_reducible exact H))
         have Ny24:=zk hy88024
         clear hy88024
         simp only [Option.some.injEq,Prod.mk.injEq] at H
         obtain ⟨rfl,rfl,rfl,rfl,rfl⟩:=H
         go_wp2_with (first|((with_reducible refine gate_callee (f:=88) rfl ?_);refine zg (some 38) Tryz.func88 #[.pointer (some ⟨g,0,none⟩),.int .i64 (wrap64 (a1 - 1))] rfl za11 ?_;(with_reducible refine (ih kj30 (by have:=HJ2.out;have:=HJ30.out;omega) g s0_0 t15 t16 (wrap64 (a1 - 1)) t17 t18 t19 t22 t23 w0 _ za13 za18 A36.out).mono ?_);rintro e w37 ⟨v20,rfl,ho0,hi,hb,hk⟩;refine ⟨_,rfl,?_⟩;have HO21:=zk (Kd.N_lower (Kd.N_mono (ok':=fun k_=>(w.heap.size≤k_)∧k_ ≠ gb1∧k_ ≠ g) ho0 (fun k_ hk_=>⟨(Nat.le_trans (keep_size (w:=w) (g:=g) (row:=none) za12) hk_),(zF BK1.out k_ hk_),(IsS77.fresh za13 k_ hk_)⟩)) (keep_size (w:=w) (g:=g) (row:=none) za12));replace HB:=zk hb;replace BK1:=yq hk BK1 NB1_0;replace HK:=yK HK hk;replace HI0:=zk hi;(try clear hb hk hi ho0);obtain ⟨Ao38,co38,eo38⟩:=Kd.N_slice HO21.out;subst eo38)|((with_reducible refine gate_dst (N:=39) rfl ?_);refine Kd.N_lit k54 _ 54 ?hg (N':=39) ?hd (xs:=([(⟨t17,t18,t19⟩:S54)]:List (S54))) (inner:=[.int .i64 t17,.string t18,.slice Ao38 t19.length co38]) (ok:=(fun k_=>(w.heap.size≤k_)∧k_ ≠ gb1∧k_ ≠ g)) (okp:=(fun k_=>(w.heap.size≤k_)∧k_ ≠ gb1∧k_ ≠ g)) ?hr ?hp (fun _ hk=>hk) ((show ∀ k_,w37.heap.size≤k_→(fun k_=>(w.heap.size≤k_)∧k_ ≠ gb1∧k_ ≠ g) k_ from fun k_ hk=>⟨(Nat.le_trans (keep_size (w:=w) (g:=g) (row:=none) za12) hk),zF BK1.out k_ hk,IsS77.fresh za13 k_ hk⟩) _ (Nat.le_refl _)) (Below.refl _ _) (Nat.le_refl _) (by simp) ?_;(case hd=>rfl);(case hg=>rfl);(case hr=>((go_simp;done)));(case hp=>exact (Reps.c3 (show Kd.FK k54 _ _ (⟨t17,t18,t19⟩:S54) [.int .i64 t17,.string t18,.slice Ao38 t19.length co38] from (k54_mkF _ _ (⟨t17,t18,t19⟩:S54) (Kd.N_reads' (Kd.N_mono (ok':=(fun k_=>(w.heap.size≤k_)∧k_ ≠ gb1∧k_ ≠ g)) (HO21.out) (fun k_ hk=>⟨hk.1,⟨hk.2.1,hk.2.2⟩⟩))).2.1 (Kd.N_F (Kd.N_mono (ok':=(fun k_=>(w.heap.size≤k_)∧k_ ≠ gb1∧k_ ≠ g)) (HO21.out) (fun k_ hk=>⟨hk.1,⟨hk.2.1,hk.2.2⟩⟩))))) (Reps.none _ _)));intro v25 w39 ho40 hb hg_ hnew_;clear hg_ hnew_;((rw [← Ny24.out] at ho40));have HO26:=zk (Kd.N_lower ho40 (keep_size (w:=w) (g:=g) (row:=none) za12));replace BK1:=yb BK1 hb;replace HB:=zk (below_step za18 hb);replace HI0:=zk (IsS77.below za13 hb);replace HK:=yk HK hb;clear HO21;clear hb ho40;obtain ⟨Ao41,co41,eo41⟩:=Kd.N_slice HO26.out;subst eo41;have hnb42:=NB1_0.out;have hnc42:=NB0_1.out;obtain ⟨hcz43_0,hcz43_1,hcz43_2,hfz43_0,hfz43_1,hfz43_2⟩:=blk3 BK1.out))
         refine bodyPost_ret (results_cell_row rfl _ _ gb1 54 #[.int .i64 8,.string ⟨#[]⟩,.slice Ao41 y88024.length co41] (0,0) _ rfl (zpu BK1.out) Tryz.underlying54 rfl (by kernel_rfl)) rfl ?_
         exact ⟨_,by (rfl),by (with_reducible repeat ((apply Kd.N_alloc)));exact Kd.N_mono (zfN (zfN (zfN (Kd.N_mono HO26.out (fun k_ hk=>(⟨hk,hk.2.1⟩:_∧k_ ≠ gb1)))))) (fun _ hk=>hk.1.1),za13,za18,za12⟩
       replace c35:=Bool.eq_false_iff.mpr c35
       subst c35
       rw [if_neg zff] at H
       try dsimp only at H
       by_cases c44:t14=3
       · rw [if_pos c44] at H
         have c44b0:=zbt c44
         have c44b1:=zqn c44
         clear c44
         obtain ⟨⟨t27,t28,t29,t32,t33⟩,A45,H⟩:=zO H
         try dsimp only at H
         obtain ⟨y88034,hy88034⟩:∃ y_:List (S54),y_=(([(⟨t27,t28,t29⟩:S54)]:List (S54))):=⟨_,rfl⟩
         replace H:(some (9,(⟨#[]⟩:ByteArray),y88034,t32,t33))=some (r1,r2,r3,r4,r5):=by ((rw [hy88034];with_reducible exact H))
         have Ny34:=zk hy88034
         clear hy88034
         simp only [Option.some.injEq,Prod.mk.injEq] at H
         obtain ⟨rfl,rfl,rfl,rfl,rfl⟩:=H
         go_wp2_with (first|((with_reducible refine gate_callee (f:=88) rfl ?_);refine zg (some 46) Tryz.func88 #[.pointer (some ⟨g,0,none⟩),.int .i64 (wrap64 (a1 - 1))] rfl za11 ?_;(with_reducible refine (ih kj30 (by have:=HJ2.out;have:=HJ30.out;omega) g s0_0 t15 t16 (wrap64 (a1 - 1)) t27 t28 t29 t32 t33 w0 _ za13 za18 A45.out).mono ?_);rintro e w46 ⟨v30,rfl,ho0,hi,hb,hk⟩;refine ⟨_,rfl,?_⟩;have HO31:=zk (Kd.N_lower (Kd.N_mono (ok':=fun k_=>(w.heap.size≤k_)∧k_ ≠ gb1∧k_ ≠ g) ho0 (fun k_ hk_=>⟨(Nat.le_trans (keep_size (w:=w) (g:=g) (row:=none) za12) hk_),(zF BK1.out k_ hk_),(IsS77.fresh za13 k_ hk_)⟩)) (keep_size (w:=w) (g:=g) (row:=none) za12));replace HB:=zk hb;replace BK1:=yq hk BK1 NB1_0;replace HK:=yK HK hk;replace HI0:=zk hi;(try clear hb hk hi ho0);obtain ⟨Ao47,co47,eo47⟩:=Kd.N_slice HO31.out;subst eo47)|((with_reducible refine gate_dst (N:=47) rfl ?_);refine Kd.N_lit k54 _ 54 ?hg (N':=47) ?hd (xs:=([(⟨t27,t28,t29⟩:S54)]:List (S54))) (inner:=[.int .i64 t27,.string t28,.slice Ao47 t29.length co47]) (ok:=(fun k_=>(w.heap.size≤k_)∧k_ ≠ gb1∧k_ ≠ g)) (okp:=(fun k_=>(w.heap.size≤k_)∧k_ ≠ gb1∧k_ ≠ g)) ?hr ?hp (fun _ hk=>hk) ((show ∀ k_,w46.heap.size≤k_→(fun k_=>(w.heap.size≤k_)∧k_ ≠ gb1∧k_ ≠ g) k_ from fun k_ hk=>⟨(Nat.le_trans (keep_size (w:=w) (g:=g) (row:=none) za12) hk),zF BK1.out k_ hk,IsS77.fresh za13 k_ hk⟩) _ (Nat.le_refl _)) (Below.refl _ _) (Nat.le_refl _) (by simp) ?_;(case hd=>rfl);(case hg=>rfl);(case hr=>((go_simp;done)));(case hp=>exact (Reps.c3 (show Kd.FK k54 _ _ (⟨t27,t28,t29⟩:S54) [.int .i64 t27,.string t28,.slice Ao47 t29.length co47] from (k54_mkF _ _ (⟨t27,t28,t29⟩:S54) (Kd.N_reads' (Kd.N_mono (ok':=(fun k_=>(w.heap.size≤k_)∧k_ ≠ gb1∧k_ ≠ g)) (HO31.out) (fun k_ hk=>⟨hk.1,⟨hk.2.1,hk.2.2⟩⟩))).2.1 (Kd.N_F (Kd.N_mono (ok':=(fun k_=>(w.heap.size≤k_)∧k_ ≠ gb1∧k_ ≠ g)) (HO31.out) (fun k_ hk=>⟨hk.1,⟨hk.2.1,hk.2.2⟩⟩))))) (Reps.none _ _)));intro v35 w48 ho49 hb hg_ hnew_;clear hg_ hnew_;((rw [← Ny34.out] at ho49));have HO36:=zk (Kd.N_lower ho49 (keep_size (w:=w) (g:=g) (row:=none) za12));replace BK1:=yb BK1 hb;replace HB:=zk (below_step za18 hb);replace HI0:=zk (IsS77.below za13 hb);replace HK:=yk HK hb;clear HO31;clear hb ho49;obtain ⟨Ao50,co50,eo50⟩:=Kd.N_slice HO36.out;subst eo50;have hnb51:=NB1_0.out;have hnc51:=NB0_1.out;obtain ⟨hcz52_0,hcz52_1,hcz52_2,hfz52_0,hfz52_1,hfz52_2⟩:=blk3 BK1.out))
         refine bodyPost_ret (results_cell_row rfl _ _ gb1 54 #[.int .i64 9,.string ⟨#[]⟩,.slice Ao50 y88034.length co50] (0,0) _ rfl (zpu BK1.out) Tryz.underlying54 rfl (by kernel_rfl)) rfl ?_
         exact ⟨_,by (rfl),by (with_reducible repeat ((apply Kd.N_alloc)));exact Kd.N_mono (zfN (zfN (zfN (Kd.N_mono HO36.out (fun k_ hk=>(⟨hk,hk.2.1⟩:_∧k_ ≠ gb1)))))) (fun _ hk=>hk.1.1),za13,za18,za12⟩
       rw [if_neg c44] at H
       have c44b0:=zbn c44
       have c44b1:=zqt c44
       by_cases c53:t14=4
       · rw [if_pos c53] at H
         have c53b0:=zbt c53
         have c53b1:=zqn c53
         clear c53
         obtain ⟨⟨t37,t38,t39,t42,t43⟩,A54,H⟩:=zO H
         try dsimp only at H
         obtain ⟨⟨t45,t46,t47,t50,t51⟩,A55,H⟩:=zO H
         try dsimp only at H
         obtain ⟨y88052,hy88052⟩:∃ y_:List (S54),y_=(([(⟨t37,t38,t39⟩:S54),(⟨t45,t46,t47⟩:S54)]:List (S54))):=⟨_,rfl⟩
         replace H:(some (7,(⟨#[]⟩:ByteArray),y88052,t50,t51))=some (r1,r2,r3,r4,r5):=by ((rw [hy88052];with_reducible exact H))
         have Ny52:=zk hy88052
         clear hy88052
         simp only [Option.some.injEq,Prod.mk.injEq] at H
         obtain ⟨rfl,rfl,rfl,rfl,rfl⟩:=H
         try go_wp2_with (first|((with_reducible refine gate_callee (f:=88) rfl ?_);refine zg (some 54) Tryz.func88 #[.pointer (some ⟨g,0,none⟩),.int .i64 (wrap64 (a1 - 1))] rfl za11 ?_;(with_reducible refine (ih kj30 (by have:=HJ2.out;have:=HJ30.out;omega) g s0_0 t15 t16 (wrap64 (a1 - 1)) t37 t38 t39 t42 t43 w0 _ za13 za18 A54.out).mono ?_);rintro e w56 ⟨v40,rfl,ho0,hi,hb,hk⟩;refine ⟨_,rfl,?_⟩;have HO41:=zk (Kd.N_lower (Kd.N_mono (ok':=fun k_=>(w.heap.size≤k_)∧k_ ≠ gb1∧k_ ≠ g) ho0 (fun k_ hk_=>⟨(Nat.le_trans (keep_size (w:=w) (g:=g) (row:=none) za12) hk_),(zF BK1.out k_ hk_),(IsS77.fresh za13 k_ hk_)⟩)) (keep_size (w:=w) (g:=g) (row:=none) za12));replace HB:=zk hb;replace BK1:=yq hk BK1 NB1_0;replace HK:=yK HK hk;replace HI0:=zk hi;(try clear hb hk hi ho0))|((with_reducible refine gate_dst (N:=5) rfl ?_);refine zE (cs:=#[.int .i64 0,.string ⟨#[]⟩,.slice none 0 0]) (t:=54) ?_;intro gb44 hg w57 hbox hb;replace HO41:=zk (Kd.N_below (Kd.N_elderB (za4 HO41.out) gb44 (Nat.le_of_eq hg.symm)) hb);replace HB:=zk (below_step za18 hb);have BK44:=zk hbox;have GW44:=zk ((by rw [hg];exact (keep_size (w:=w) (g:=g) (row:=none) za12):w.heap.size≤gb44));have GE44:=zk ((Nat.le_trans HW0.out (by rw [hg];exact (keep_size (w:=w) (g:=g) (row:=none) za12):w.heap.size≤gb44):w0.heap.size≤gb44));have NB1_44:=yn hg BK1;have NB44_1:=yp hg BK1;have NB0_44:=zk (zm hg (IsS77.lt (show IsS77 w0 _ g s0_0 t42 t43 from za13)));have NB44_0:=zk (zM hg (IsS77.lt (show IsS77 w0 _ g s0_0 t42 t43 from za13)));replace BK1:=yb BK1 hb;replace HI0:=zk (IsS77.below za13 hb);replace HK:=yk HK hb;clear hb hbox hg;have hnb58:=NB44_1.out;have hnc58:=NB1_44.out;have hnb59:=NB44_0.out;have hnc59:=NB0_44.out;obtain ⟨hcz60_0,hcz60_1,hcz60_2,hfz60_0,hfz60_1,hfz60_2⟩:=blk3 BK44.out;obtain ⟨Ao61,co61,eo61⟩:=Kd.N_slice HO41.out;subst eo61))
         have n0_:Aside0 (Kd.N k54 54 (((w57.setCell ⟨gb44,0,none⟩ (.int .i64 t37)).setCell ⟨gb44,1,none⟩ (.string t38)).setCell ⟨gb44,2,none⟩ (.slice Ao61 t39.length co61)) w.heap.size (fun k_=>(w.heap.size≤k_)∧k_ ≠ gb1∧k_ ≠ g∧k_ ≠ gb44) (.slice Ao61 t39.length co61) t39):=⟨by (with_reducible repeat ((apply Kd.N_alloc)));exact Kd.N_mono (zfN (zfN (zfN (Kd.N_mono HO41.out (fun k_ hk=>(⟨hk,hk.2⟩:_∧k_ ≠ gb44)))))) (fun _ hk=>⟨hk.1.1.1,⟨hk.1.1.2.1,⟨hk.1.1.2.2,hk.1.2⟩⟩⟩)⟩
         have n1_:Aside0 ((((w57.setCell ⟨gb44,0,none⟩ (.int .i64 t37)).setCell ⟨gb44,1,none⟩ (.string t38)).setCell ⟨gb44,2,none⟩ (.slice Ao61 t39.length co61)).heap[gb1]? = some (.cells #[.int .i64 0,.string ⟨#[]⟩,.slice none 0 0] 54 (0,0))):=⟨zpw BK1.out⟩
         have n2_:Aside0 ((((w57.setCell ⟨gb44,0,none⟩ (.int .i64 t37)).setCell ⟨gb44,1,none⟩ (.string t38)).setCell ⟨gb44,2,none⟩ (.slice Ao61 t39.length co61)).heap[gb44]? = some (.cells #[.int .i64 t37,.string t38,.slice Ao61 t39.length co61] 54 (0,0))):=⟨zpu BK44.out⟩
         have n3_:Aside0 (IsS77 w0 (((w57.setCell ⟨gb44,0,none⟩ (.int .i64 t37)).setCell ⟨gb44,1,none⟩ (.string t38)).setCell ⟨gb44,2,none⟩ (.slice Ao61 t39.length co61)) g s0_0 t42 t43):=⟨za60⟩
         have n4_:Aside0 (KeepBut w (((w57.setCell ⟨gb44,0,none⟩ (.int .i64 t37)).setCell ⟨gb44,1,none⟩ (.string t38)).setCell ⟨gb44,2,none⟩ (.slice Ao61 t39.length co61)) g none):=⟨za51⟩
         have n5_:Aside0 (Below w0.heap.size w0 (((w57.setCell ⟨gb44,0,none⟩ (.int .i64 t37)).setCell ⟨gb44,1,none⟩ (.string t38)).setCell ⟨gb44,2,none⟩ (.slice Ao61 t39.length co61))):=⟨za71⟩
         (try clear HO41)
         (try clear BK1)
         (try clear BK44)
         (try clear HI0)
         (try clear HK)
         (try clear HB)
         generalize (((w57.setCell ⟨gb44,0,none⟩ (.int .i64 t37)).setCell ⟨gb44,1,none⟩ (.string t38)).setCell ⟨gb44,2,none⟩ (.slice Ao61 t39.length co61))=w62 at n0_ n1_ n2_ n3_ n4_ n5_ ⊢
         have HO41:=n0_
         have BK1:=n1_
         have BK44:=n2_
         have HI0:=n3_
         have HK:=n4_
         have HB:=n5_
         clear n0_ n1_ n2_ n3_ n4_ n5_
         replace HO41:=zk (Kd.N_drew HO41.out)
         replace BK1:=zk (blk_drew BK1.out)
         replace BK44:=zk (blk_drew BK44.out)
         replace HI0:=zk (IsS77.drew HI0.out)
         replace HK:=zk (keep_drew HK.out)
         replace HB:=zk (below_drew1 HB.out)
         refine start_ (n:=8) (S:=fun w'=>w'.cell? ⟨gb44,0,none⟩=some (.int .i64 t37)∧w'.cell? ⟨gb44,1,none⟩=some (.string t38)∧w'.cell? ⟨gb44,2,none⟩=some (.slice Ao61 t39.length co61)) (ds:=[]) #[false,false,false,false,false,false,false,false] (by kernel_rfl) rfl rfl ⟨(blk_cell BK44.out 0).trans rfl,(blk_cell BK44.out 1).trans rfl,(blk_cell BK44.out 2).trans rfl⟩ (fun hHeld=>?_);refine with_tabW spec_l3Draw.tab19 spec_l3Draw.bits19 (fun HT_ HW_=>?_)
         generalize w62.drew=w63 at HO41 BK1 BK44 HI0 HK HB hHeld ⊢
         refine zy 1 (some 56) HT_.out ?_
         refine zy 2 (some 57) HT_.out ?_
         refine zy 3 (some 58) HT_.out ?_
         refine ztk 0 (some 55) HT_.out HW_.out hHeld ?_
         refine zon 4 (some 59) HT_.out (fun K hK=>?_)
         refine goes_ Tryz.func88 (by kernel_rfl) rfl #[.pointer (some ⟨g,0,none⟩),.int .i64 (wrap64 (a1 - 1))] (by rfl) rfl rfl za11 ?_
         with_reducible refine (ih kj30 (by have:=HJ2.out;have:=HJ30.out;omega) g s0_0 t42 t43 (wrap64 (a1 - 1)) t45 t46 t47 t50 t51 w0 _ za60 za71 A55.out).mono ?_
         rintro e w64 ⟨v48,rfl,ho0,hi,hb,hk⟩
         refine ⟨_,rfl,?_⟩
         have HO49:=zk (Kd.N_lower (Kd.N_mono (ok':=fun k_=>(w.heap.size≤k_)∧some k_ ≠ (.slice Ao61 t39.length co61:Value).ownBlock∧k_ ≠ gb1∧k_ ≠ gb44∧k_ ≠ g) ho0 (fun k_ hk_=>⟨(Nat.le_trans (keep_size (w:=w) (g:=g) (row:=none) za51) hk_),(Kd.fresh' (Kd.N_lt (za4 HO41.out)) k_ hk_),(zF BK1.out k_ hk_),(zF BK44.out k_ hk_),(IsS77.fresh za60 k_ hk_)⟩)) (keep_size (w:=w) (g:=g) (row:=none) za51))
         replace HB:=zk hb
         replace BK1:=yq hk BK1 NB1_0
         replace HO41:=zk (Kd.N_mono (Kd.N_told (Kd.N_oldK (Kd.N_mono (ok:=fun k_=>(((w.heap.size≤k_))∧(k_ ≠ gb1∧(k_ ≠ g∧k_ ≠ gb44)))) (za4 HO41.out) (fun k_ hk_=>(⟨hk_,hk_.2.2.1⟩:_∧k_ ≠ g))) hk) (Kd.N_base ho0)) (fun _ h_=>h_.1))
         replace BK44:=yq hk BK44 NB44_0
         replace HK:=yK HK hk
         replace HI0:=zk hi
         (try clear hb)
         (try clear hb2)
         (try clear hk)
         (try clear hi)
         (try clear ho0)
         obtain ⟨Ao65,co65,eo65⟩:=Kd.N_slice HO49.out
         ((subst eo65))
         refine hK.out _ _ ⟨(blk_cell BK44.out 0).trans rfl,(blk_cell BK44.out 1).trans rfl,(blk_cell BK44.out 2).trans rfl⟩ (fun hHeld=>?_)
         clear hK K
         refine zno (some 59) ?_
         refine zon 5 (some 60) HT_.out (fun K hK=>?_)
         refine Kd.N_lit_step k54 _ 54 ?hg (N':=60) ?hd (xs:=([(⟨t37,t38,t39⟩:S54),(⟨t45,t46,t47⟩:S54)]:List (S54))) (inner:=[.int .i64 t37,.string t38,.slice Ao61 t39.length co61,.int .i64 t45,.string t46,.slice Ao65 t47.length co65]) (ok:=(fun k_=>(w.heap.size≤k_)∧k_ ≠ gb1∧k_ ≠ gb44∧k_ ≠ g)) (okp:=(fun k_=>(w.heap.size≤k_)∧k_ ≠ gb1∧k_ ≠ gb44∧k_ ≠ g)) ?hr ?hp (fun _ hk=>hk) ((show ∀ k_,w64.heap.size≤k_→(fun k_=>(w.heap.size≤k_)∧k_ ≠ gb1∧k_ ≠ gb44∧k_ ≠ g) k_ from fun k_ hk=>⟨(Nat.le_trans (keep_size (w:=w) (g:=g) (row:=none) za51) hk),zF BK1.out k_ hk,zF BK44.out k_ hk,IsS77.fresh za60 k_ hk⟩) _ (Nat.le_refl _)) (Below.refl _ _) (Nat.le_refl _) (by simp) ?_;(case hd=>rfl);(case hg=>rfl);(case hr=>((go_simp;done)));(case hp=>exact (Reps.c3 (show Kd.FK k54 _ _ (⟨t37,t38,t39⟩:S54) [.int .i64 t37,.string t38,.slice Ao61 t39.length co61] from (k54_mkF _ _ (⟨t37,t38,t39⟩:S54) (Kd.N_reads' (Kd.N_mono (ok':=(fun k_=>(w.heap.size≤k_)∧k_ ≠ gb1∧k_ ≠ gb44∧k_ ≠ g)) (HO41.out) (fun k_ hk=>⟨hk.1.1,⟨hk.1.2.1,⟨hk.1.2.2.2,hk.1.2.2.1⟩⟩⟩))).2.1 (Kd.N_F (Kd.N_mono (ok':=(fun k_=>(w.heap.size≤k_)∧k_ ≠ gb1∧k_ ≠ gb44∧k_ ≠ g)) (HO41.out) (fun k_ hk=>⟨hk.1.1,⟨hk.1.2.1,⟨hk.1.2.2.2,hk.1.2.2.1⟩⟩⟩))))) (Reps.c3 (show Kd.FK k54 _ _ (⟨t45,t46,t47⟩:S54) [.int .i64 t45,.string t46,.slice Ao65 t47.length co65] from (k54_mkF _ _ (⟨t45,t46,t47⟩:S54) (Kd.N_reads' (Kd.N_mono (ok':=(fun k_=>(w.heap.size≤k_)∧k_ ≠ gb1∧k_ ≠ gb44∧k_ ≠ g)) (HO49.out) (fun k_ hk=>⟨hk.1,⟨hk.2.2.1,⟨hk.2.2.2.1,hk.2.2.2.2⟩⟩⟩))).2.1 (Kd.N_F (Kd.N_mono (ok':=(fun k_=>(w.heap.size≤k_)∧k_ ≠ gb1∧k_ ≠ gb44∧k_ ≠ g)) (HO49.out) (fun k_ hk=>⟨hk.1,⟨hk.2.2.1,⟨hk.2.2.2.1,hk.2.2.2.2⟩⟩⟩))))) (Reps.none _ _))))
         intro v53 w66 ho67 hb hg_ hnew_
         clear hg_ hnew_
         ((rw [← Ny52.out] at ho67))
         have HO54:=zk (Kd.N_lower ho67 (keep_size (w:=w) (g:=g) (row:=none) za51))
         replace BK1:=yb BK1 hb
         replace BK44:=yb BK44 hb
         replace HB:=zk (below_step za71 hb)
         replace HI0:=zk (IsS77.below za60 hb)
         replace HK:=yk HK hb
         clear HO41
         clear HO49
         clear hb ho67
         obtain ⟨Ao68,co68,eo68⟩:=Kd.N_slice HO54.out
         ((subst eo68))
         refine hK.out _ _ ⟨(blk_cell BK44.out 0).trans rfl,(blk_cell BK44.out 1).trans rfl,(blk_cell BK44.out 2).trans rfl⟩ (fun hHeld=>?_)
         clear hK K
         refine zno (some 60) ?_
         refine zy 6 (some 61) HT_.out ?_
         refine zon 7 none HT_.out (fun K hK=>?_)
         have hs69:w66.cell? ⟨gb1,0,none⟩=some (.int .i64 0):=(blk_cell BK1.out 0).trans rfl
         have hfs69:=blk_frozen BK1.out 0
         have hns69_1:=NB44_1.out
         have hms69_1:=NB1_44.out
         have hs70:w66.cell? ⟨gb1,1,none⟩=some (.string ⟨#[]⟩):=(blk_cell BK1.out 1).trans rfl
         have hfs70:=blk_frozen BK1.out 1
         have hns70_1:=NB44_1.out
         have hms70_1:=NB1_44.out
         have hs71:w66.cell? ⟨gb1,2,none⟩=some (.slice none 0 0):=(blk_cell BK1.out 2).trans rfl
         have hfs71:=blk_frozen BK1.out 2
         have hns71_1:=NB44_1.out
         have hms71_1:=NB1_44.out
         refine skip_ (w1:=?_) (by rfl) rfl ?_ ?_
         rotate_left
         · go_simp
           rfl
         refine hK.out _ _ ⟨((cell_far (p:=⟨gb1,_,none⟩) NB44_1.out _).trans (((cell_far (p:=⟨gb1,_,none⟩) NB44_1.out _).trans (((cell_far (p:=⟨gb1,_,none⟩) NB44_1.out _).trans (hHeld.1)))))),((cell_far (p:=⟨gb1,_,none⟩) NB44_1.out _).trans (((cell_far (p:=⟨gb1,_,none⟩) NB44_1.out _).trans (((cell_far (p:=⟨gb1,_,none⟩) NB44_1.out _).trans (hHeld.2.1)))))),((cell_far (p:=⟨gb1,_,none⟩) NB44_1.out _).trans (((cell_far (p:=⟨gb1,_,none⟩) NB44_1.out _).trans (((cell_far (p:=⟨gb1,_,none⟩) NB44_1.out _).trans (hHeld.2.2))))))⟩ (fun hHeld=>?_)
         clear hK K
         refine done_ (done_of HT_.out (by kernel_rfl)) ?_
         try go_wp2
         refine bodyPost_ret (results_cell_row rfl _ _ gb1 54 #[.int .i64 7,.string ⟨#[]⟩,.slice Ao68 y88052.length co68] (0,0) _ rfl (zpu BK1.out) Tryz.underlying54 rfl (by kernel_rfl)) rfl ?_
         exact ⟨_,by (rfl),by (with_reducible repeat ((apply Kd.N_alloc)));exact Kd.N_mono (zfN (zfN (zfN (Kd.N_mono HO54.out (fun k_ hk=>(⟨hk,hk.2.1⟩:_∧k_ ≠ gb1)))))) (fun _ hk=>hk.1.1),za60,za71,za51⟩
       · rw [if_neg c53] at H
         have c53b0:=zbn c53
         have c53b1:=zqt c53
         have HC72:=zk H
         clear H
         go_upto_if 62 with (fail)
         go_cut [62] (fun v62 wc=>∃ (kq:Nat) (x62_71:Bool),v62 = .bool x62_71∧Aside0 (spec_l3Draw.j2 kq a1 x62_71 s0_0 t15 t16=some (r1,r2,r3,r4,r5))∧Aside0 (kq≤kj30)∧Aside0 (wc.heap[gb1]? = some (.cells #[.int .i64 0,.string ⟨#[]⟩,(.slice none 0 0)] 54 (0,0)))∧Aside0 (IsS77 w0 wc g s0_0 t15 t16)∧Aside0 (KeepBut w wc g none)∧Aside0 (Below w0.heap.size w0 wc))
         case first =>
          have H:=HC72.out
          clear HC72
          by_cases c73:t14=5
          · rw [if_pos c73] at H
            have c73b0:=zbt c73
            have c73b1:=zqn c73
            clear c73
            ((rw [c73b0]))
            have H':=zk H
            clear H
            go_wp2
            go_meet
            case rel=>exact ⟨_,((t14 == 5)),za33,H',⟨by have:=HJ2.out;have:=HJ30.out;(omega)⟩,⟨za3 BK1.out⟩,⟨za13⟩,⟨za12⟩,⟨za18⟩⟩
          · rw [if_neg c73] at H
            have c73b0:=zbn c73
            have c73b1:=zqt c73
            ((rw [c73b0]))
            have H':=zk H
            clear H
            go_wp2
            go_meet
            case rel=>exact ⟨_,((t14 == 6)),za33,H',⟨by have:=HJ2.out;have:=HJ30.out;(omega)⟩,⟨za3 BK1.out⟩,⟨za13⟩,⟨za12⟩,⟨za18⟩⟩
         case rest =>
          clear HC72
          try clear c8
          try clear c53
          try clear c53b0
          try clear c53b1
          obtain ⟨kq,x62_71,rfl,HA,HJ71,BK1,HI0,HK,HB⟩:=hcut
          cases kq with
          | zero=>exact absurd HA.out (by simp [spec_l3Draw.j2])
          | succ kj71 =>
           have H:=HA.out
           clear HA
           simp only [spec_l3Draw.j2] at H
           by_cases c74:x62_71=true
           · subst c74
             rw [if_pos rfl] at H
             try dsimp only at H
             obtain ⟨⟨t55,t56,t57,t60,t61⟩,A75,H⟩:=zO H
             try dsimp only at H
             obtain ⟨⟨t63,t64,t65,t68,t69⟩,A76,H⟩:=zO H
             try dsimp only at H
             obtain ⟨y88070,hy88070⟩:∃ y_:List (S54),y_=(([(⟨t55,t56,t57⟩:S54),(⟨t63,t64,t65⟩:S54)]:List (S54))):=⟨_,rfl⟩
             replace H:(some (6,(⟨#[]⟩:ByteArray),y88070,t68,t69))=some (r1,r2,r3,r4,r5):=by ((rw [hy88070];with_reducible exact H))
             have Ny70:=zk hy88070
             clear hy88070
             simp only [Option.some.injEq,Prod.mk.injEq] at H
             obtain ⟨rfl,rfl,rfl,rfl,rfl⟩:=H
             try go_wp2_with (first|((with_reducible refine gate_callee (f:=88) rfl ?_);refine zg (some 68) Tryz.func88 #[.pointer (some ⟨g,0,none⟩),.int .i64 (wrap64 (a1 - 1))] rfl za11 ?_;(with_reducible refine (ih kj71 za80 g s0_0 t15 t16 (wrap64 (a1 - 1)) t55 t56 t57 t60 t61 w0 _ za13 za18 A75.out).mono ?_);rintro e w77 ⟨v58,rfl,ho0,hi,hb,hk⟩;refine ⟨_,rfl,?_⟩;have HO59:=zk (Kd.N_lower (Kd.N_mono (ok':=fun k_=>(w.heap.size≤k_)∧k_ ≠ gb1∧k_ ≠ g) ho0 (fun k_ hk_=>⟨(Nat.le_trans (keep_size (w:=w) (g:=g) (row:=none) za12) hk_),(zF BK1.out k_ hk_),(IsS77.fresh za13 k_ hk_)⟩)) (keep_size (w:=w) (g:=g) (row:=none) za12));replace HB:=zk hb;replace BK1:=yq hk BK1 NB1_0;replace HK:=yK HK hk;replace HI0:=zk hi;(try clear hb hk hi ho0))|((with_reducible refine gate_dst (N:=6) rfl ?_);refine zE (cs:=#[.int .i64 0,.string ⟨#[]⟩,.slice none 0 0]) (t:=54) ?_;intro gb62 hg w78 hbox hb;replace HO59:=zk (Kd.N_below (Kd.N_elderB (za4 HO59.out) gb62 (Nat.le_of_eq hg.symm)) hb);replace HB:=zk (below_step za18 hb);have BK62:=zk hbox;have GW62:=zk ((by rw [hg];exact (keep_size (w:=w) (g:=g) (row:=none) za12):w.heap.size≤gb62));have GE62:=zk ((Nat.le_trans HW0.out (by rw [hg];exact (keep_size (w:=w) (g:=g) (row:=none) za12):w.heap.size≤gb62):w0.heap.size≤gb62));have NB1_62:=yn hg BK1;have NB62_1:=yp hg BK1;have NB0_62:=zk (zm hg (IsS77.lt (show IsS77 w0 _ g s0_0 t60 t61 from za13)));have NB62_0:=zk (zM hg (IsS77.lt (show IsS77 w0 _ g s0_0 t60 t61 from za13)));replace BK1:=yb BK1 hb;replace HI0:=zk (IsS77.below za13 hb);replace HK:=yk HK hb;clear hb hbox hg;have hnb79:=NB62_1.out;have hnc79:=NB1_62.out;have hnb80:=NB62_0.out;have hnc80:=NB0_62.out;obtain ⟨hcz81_0,hcz81_1,hcz81_2,hfz81_0,hfz81_1,hfz81_2⟩:=blk3 BK62.out;obtain ⟨Ao82,co82,eo82⟩:=Kd.N_slice HO59.out;subst eo82))
             have n0_:Aside0 (Kd.N k54 54 (((w78.setCell ⟨gb62,0,none⟩ (.int .i64 t55)).setCell ⟨gb62,1,none⟩ (.string t56)).setCell ⟨gb62,2,none⟩ (.slice Ao82 t57.length co82)) w.heap.size (fun k_=>(w.heap.size≤k_)∧k_ ≠ gb1∧k_ ≠ g∧k_ ≠ gb62) (.slice Ao82 t57.length co82) t57):=⟨by (with_reducible repeat ((apply Kd.N_alloc)));exact Kd.N_mono (zfN (zfN (zfN (Kd.N_mono HO59.out (fun k_ hk=>(⟨hk,hk.2⟩:_∧k_ ≠ gb62)))))) (fun _ hk=>⟨hk.1.1.1,⟨hk.1.1.2.1,⟨hk.1.1.2.2,hk.1.2⟩⟩⟩)⟩
             have n1_:Aside0 ((((w78.setCell ⟨gb62,0,none⟩ (.int .i64 t55)).setCell ⟨gb62,1,none⟩ (.string t56)).setCell ⟨gb62,2,none⟩ (.slice Ao82 t57.length co82)).heap[gb1]? = some (.cells #[.int .i64 0,.string ⟨#[]⟩,.slice none 0 0] 54 (0,0))):=⟨zpw BK1.out⟩
             have n2_:Aside0 ((((w78.setCell ⟨gb62,0,none⟩ (.int .i64 t55)).setCell ⟨gb62,1,none⟩ (.string t56)).setCell ⟨gb62,2,none⟩ (.slice Ao82 t57.length co82)).heap[gb62]? = some (.cells #[.int .i64 t55,.string t56,.slice Ao82 t57.length co82] 54 (0,0))):=⟨zpu BK62.out⟩
             have n3_:Aside0 (IsS77 w0 (((w78.setCell ⟨gb62,0,none⟩ (.int .i64 t55)).setCell ⟨gb62,1,none⟩ (.string t56)).setCell ⟨gb62,2,none⟩ (.slice Ao82 t57.length co82)) g s0_0 t60 t61):=⟨za59⟩
             have n4_:Aside0 (KeepBut w (((w78.setCell ⟨gb62,0,none⟩ (.int .i64 t55)).setCell ⟨gb62,1,none⟩ (.string t56)).setCell ⟨gb62,2,none⟩ (.slice Ao82 t57.length co82)) g none):=⟨za50⟩
             have n5_:Aside0 (Below w0.heap.size w0 (((w78.setCell ⟨gb62,0,none⟩ (.int .i64 t55)).setCell ⟨gb62,1,none⟩ (.string t56)).setCell ⟨gb62,2,none⟩ (.slice Ao82 t57.length co82))):=⟨za70⟩
             (try clear HO59)
             (try clear BK1)
             (try clear BK62)
             (try clear HI0)
             (try clear HK)
             (try clear HB)
             generalize (((w78.setCell ⟨gb62,0,none⟩ (.int .i64 t55)).setCell ⟨gb62,1,none⟩ (.string t56)).setCell ⟨gb62,2,none⟩ (.slice Ao82 t57.length co82))=w83 at n0_ n1_ n2_ n3_ n4_ n5_ ⊢
             have HO59:=n0_
             have BK1:=n1_
             have BK62:=n2_
             have HI0:=n3_
             have HK:=n4_
             have HB:=n5_
             clear n0_ n1_ n2_ n3_ n4_ n5_
             replace HO59:=zk (Kd.N_drew HO59.out)
             replace BK1:=zk (blk_drew BK1.out)
             replace BK62:=zk (blk_drew BK62.out)
             replace HI0:=zk (IsS77.drew HI0.out)
             replace HK:=zk (keep_drew HK.out)
             replace HB:=zk (below_drew1 HB.out)
             refine start_ (n:=8) (S:=fun w'=>w'.cell? ⟨gb62,0,none⟩=some (.int .i64 t55)∧w'.cell? ⟨gb62,1,none⟩=some (.string t56)∧w'.cell? ⟨gb62,2,none⟩=some (.slice Ao82 t57.length co82)) (ds:=[]) #[false,false,false,false,false,false,false,false] (by kernel_rfl) rfl rfl ⟨(blk_cell BK62.out 0).trans rfl,(blk_cell BK62.out 1).trans rfl,(blk_cell BK62.out 2).trans rfl⟩ (fun hHeld=>?_);refine with_tabW spec_l3Draw.tab23 spec_l3Draw.bits23 (fun HT_ HW_=>?_)
             generalize w83.drew=w84 at HO59 BK1 BK62 HI0 HK HB hHeld ⊢
             refine zy 1 (some 70) HT_.out ?_
             refine zy 2 (some 71) HT_.out ?_
             refine zy 3 (some 72) HT_.out ?_
             refine ztk 0 (some 69) HT_.out HW_.out hHeld ?_
             refine zon 4 (some 73) HT_.out (fun K hK=>?_)
             refine goes_ Tryz.func88 (by kernel_rfl) rfl #[.pointer (some ⟨g,0,none⟩),.int .i64 (wrap64 (a1 - 1))] (by rfl) rfl rfl za11 ?_
             with_reducible refine (ih kj71 za80 g s0_0 t60 t61 (wrap64 (a1 - 1)) t63 t64 t65 t68 t69 w0 _ za59 za70 A76.out).mono ?_
             rintro e w85 ⟨v66,rfl,ho0,hi,hb,hk⟩
             refine ⟨_,rfl,?_⟩
             have HO67:=zk (Kd.N_lower (Kd.N_mono (ok':=fun k_=>(w.heap.size≤k_)∧some k_ ≠ (.slice Ao82 t57.length co82:Value).ownBlock∧k_ ≠ gb1∧k_ ≠ gb62∧k_ ≠ g) ho0 (fun k_ hk_=>⟨(Nat.le_trans (keep_size (w:=w) (g:=g) (row:=none) za50) hk_),(Kd.fresh' (Kd.N_lt (za4 HO59.out)) k_ hk_),(zF BK1.out k_ hk_),(zF BK62.out k_ hk_),(IsS77.fresh za59 k_ hk_)⟩)) (keep_size (w:=w) (g:=g) (row:=none) za50))
             replace HB:=zk hb
             replace BK1:=yq hk BK1 NB1_0
             replace HO59:=zk (Kd.N_mono (Kd.N_told (Kd.N_oldK (Kd.N_mono (ok:=fun k_=>(((w.heap.size≤k_))∧(k_ ≠ gb1∧(k_ ≠ g∧k_ ≠ gb62)))) (za4 HO59.out) (fun k_ hk_=>(⟨hk_,hk_.2.2.1⟩:_∧k_ ≠ g))) hk) (Kd.N_base ho0)) (fun _ h_=>h_.1))
             replace BK62:=yq hk BK62 NB62_0
             replace HK:=yK HK hk
             replace HI0:=zk hi
             (try clear hb)
             (try clear hb2)
             (try clear hk)
             (try clear hi)
             (try clear ho0)
             obtain ⟨Ao86,co86,eo86⟩:=Kd.N_slice HO67.out
             ((subst eo86))
             refine hK.out _ _ ⟨(blk_cell BK62.out 0).trans rfl,(blk_cell BK62.out 1).trans rfl,(blk_cell BK62.out 2).trans rfl⟩ (fun hHeld=>?_)
             clear hK K
             refine zno (some 73) ?_
             refine zon 5 (some 74) HT_.out (fun K hK=>?_)
             refine Kd.N_lit_step k54 _ 54 ?hg (N':=74) ?hd (xs:=([(⟨t55,t56,t57⟩:S54),(⟨t63,t64,t65⟩:S54)]:List (S54))) (inner:=[.int .i64 t55,.string t56,.slice Ao82 t57.length co82,.int .i64 t63,.string t64,.slice Ao86 t65.length co86]) (ok:=(fun k_=>(w.heap.size≤k_)∧k_ ≠ gb1∧k_ ≠ gb62∧k_ ≠ g)) (okp:=(fun k_=>(w.heap.size≤k_)∧k_ ≠ gb1∧k_ ≠ gb62∧k_ ≠ g)) ?hr ?hp (fun _ hk=>hk) ((show ∀ k_,w85.heap.size≤k_→(fun k_=>(w.heap.size≤k_)∧k_ ≠ gb1∧k_ ≠ gb62∧k_ ≠ g) k_ from fun k_ hk=>⟨(Nat.le_trans (keep_size (w:=w) (g:=g) (row:=none) za50) hk),zF BK1.out k_ hk,zF BK62.out k_ hk,IsS77.fresh za59 k_ hk⟩) _ (Nat.le_refl _)) (Below.refl _ _) (Nat.le_refl _) (by simp) ?_;(case hd=>rfl);(case hg=>rfl);(case hr=>((go_simp;done)));(case hp=>exact (Reps.c3 (show Kd.FK k54 _ _ (⟨t55,t56,t57⟩:S54) [.int .i64 t55,.string t56,.slice Ao82 t57.length co82] from (k54_mkF _ _ (⟨t55,t56,t57⟩:S54) (Kd.N_reads' (Kd.N_mono (ok':=(fun k_=>(w.heap.size≤k_)∧k_ ≠ gb1∧k_ ≠ gb62∧k_ ≠ g)) (HO59.out) (fun k_ hk=>⟨hk.1.1,⟨hk.1.2.1,⟨hk.1.2.2.2,hk.1.2.2.1⟩⟩⟩))).2.1 (Kd.N_F (Kd.N_mono (ok':=(fun k_=>(w.heap.size≤k_)∧k_ ≠ gb1∧k_ ≠ gb62∧k_ ≠ g)) (HO59.out) (fun k_ hk=>⟨hk.1.1,⟨hk.1.2.1,⟨hk.1.2.2.2,hk.1.2.2.1⟩⟩⟩))))) (Reps.c3 (show Kd.FK k54 _ _ (⟨t63,t64,t65⟩:S54) [.int .i64 t63,.string t64,.slice Ao86 t65.length co86] from (k54_mkF _ _ (⟨t63,t64,t65⟩:S54) (Kd.N_reads' (Kd.N_mono (ok':=(fun k_=>(w.heap.size≤k_)∧k_ ≠ gb1∧k_ ≠ gb62∧k_ ≠ g)) (HO67.out) (fun k_ hk=>⟨hk.1,⟨hk.2.2.1,⟨hk.2.2.2.1,hk.2.2.2.2⟩⟩⟩))).2.1 (Kd.N_F (Kd.N_mono (ok':=(fun k_=>(w.heap.size≤k_)∧k_ ≠ gb1∧k_ ≠ gb62∧k_ ≠ g)) (HO67.out) (fun k_ hk=>⟨hk.1,⟨hk.2.2.1,⟨hk.2.2.2.1,hk.2.2.2.2⟩⟩⟩))))) (Reps.none _ _))))
             intro v71 w87 ho88 hb hg_ hnew_
             clear hg_ hnew_
             ((rw [← Ny70.out] at ho88))
             have HO72:=zk (Kd.N_lower ho88 (keep_size (w:=w) (g:=g) (row:=none) za50))
             replace BK1:=yb BK1 hb
             replace BK62:=yb BK62 hb
             replace HB:=zk (below_step za70 hb)
             replace HI0:=zk (IsS77.below za59 hb)
             replace HK:=yk HK hb
             clear HO59
             clear HO67
             clear hb ho88
             obtain ⟨Ao89,co89,eo89⟩:=Kd.N_slice HO72.out
             ((subst eo89))
             refine hK.out _ _ ⟨(blk_cell BK62.out 0).trans rfl,(blk_cell BK62.out 1).trans rfl,(blk_cell BK62.out 2).trans rfl⟩ (fun hHeld=>?_)
             clear hK K
             refine zno (some 74) ?_
             refine zy 6 (some 75) HT_.out ?_
             refine zon 7 none HT_.out (fun K hK=>?_)
             have hs90:w87.cell? ⟨gb1,0,none⟩=some (.int .i64 0):=(blk_cell BK1.out 0).trans rfl
             have hfs90:=blk_frozen BK1.out 0
             have hns90_1:=NB62_1.out
             have hms90_1:=NB1_62.out
             have hs91:w87.cell? ⟨gb1,1,none⟩=some (.string ⟨#[]⟩):=(blk_cell BK1.out 1).trans rfl
             have hfs91:=blk_frozen BK1.out 1
             have hns91_1:=NB62_1.out
             have hms91_1:=NB1_62.out
             have hs92:w87.cell? ⟨gb1,2,none⟩=some (.slice none 0 0):=(blk_cell BK1.out 2).trans rfl
             have hfs92:=blk_frozen BK1.out 2
             have hns92_1:=NB62_1.out
             have hms92_1:=NB1_62.out
             refine skip_ (w1:=?_) (by rfl) rfl ?_ ?_
             rotate_left
             ·go_simp
              rfl
             refine hK.out _ _ ⟨((cell_far (p:=⟨gb1,_,none⟩) NB62_1.out _).trans (((cell_far (p:=⟨gb1,_,none⟩) NB62_1.out _).trans (((cell_far (p:=⟨gb1,_,none⟩) NB62_1.out _).trans (hHeld.1)))))),((cell_far (p:=⟨gb1,_,none⟩) NB62_1.out _).trans (((cell_far (p:=⟨gb1,_,none⟩) NB62_1.out _).trans (((cell_far (p:=⟨gb1,_,none⟩) NB62_1.out _).trans (hHeld.2.1)))))),((cell_far (p:=⟨gb1,_,none⟩) NB62_1.out _).trans (((cell_far (p:=⟨gb1,_,none⟩) NB62_1.out _).trans (((cell_far (p:=⟨gb1,_,none⟩) NB62_1.out _).trans (hHeld.2.2))))))⟩ (fun hHeld=>?_)
             clear hK K
             refine done_ (done_of HT_.out (by kernel_rfl)) ?_
             try go_wp2
             refine bodyPost_ret (results_cell_row rfl _ _ gb1 54 #[.int .i64 6,.string ⟨#[]⟩,.slice Ao89 y88070.length co89] (0,0) _ rfl (zpu BK1.out) Tryz.underlying54 rfl (by kernel_rfl)) rfl ?_
             exact ⟨_,by (rfl),by (with_reducible repeat ((apply Kd.N_alloc)));exact Kd.N_mono (zfN (zfN (zfN (Kd.N_mono HO72.out (fun k_ hk=>(⟨hk,hk.2.1⟩:_∧k_ ≠ gb1)))))) (fun _ hk=>hk.1.1),za59,za70,za50⟩
           · replace c74:=Bool.eq_false_iff.mpr c74
             subst c74
             rw [if_neg zff] at H
             try dsimp only at H
             obtain ⟨⟨t73,t74,t75,t78,t79⟩,A93,H⟩:=zO H
             try dsimp only at H
             obtain ⟨⟨t81,t82,t83,t86,t87⟩,A94,H⟩:=zO H
             try dsimp only at H
             obtain ⟨y88088,hy88088⟩:∃ y_:List (S54),y_=(([(⟨t73,t74,t75⟩:S54),(⟨t81,t82,t83⟩:S54)]:List (S54))):=⟨_,rfl⟩
             replace H:(some (5,(⟨#[]⟩:ByteArray),y88088,t86,t87))=some (r1,r2,r3,r4,r5):=by ((rw [hy88088];with_reducible exact H))
             have Ny88:=zk hy88088
             clear hy88088
             simp only [Option.some.injEq,Prod.mk.injEq] at H
             obtain ⟨rfl,rfl,rfl,rfl,rfl⟩:=H
             try go_wp2_with (first|((with_reducible refine gate_callee (f:=88) rfl ?_);refine zg (some 79) Tryz.func88 #[.pointer (some ⟨g,0,none⟩),.int .i64 (wrap64 (a1 - 1))] rfl za11 ?_;(with_reducible refine (ih kj71 za80 g s0_0 t15 t16 (wrap64 (a1 - 1)) t73 t74 t75 t78 t79 w0 _ za13 za18 A93.out).mono ?_);rintro e w95 ⟨v76,rfl,ho0,hi,hb,hk⟩;refine ⟨_,rfl,?_⟩;have HO77:=zk (Kd.N_lower (Kd.N_mono (ok':=fun k_=>(w.heap.size≤k_)∧k_ ≠ gb1∧k_ ≠ g) ho0 (fun k_ hk_=>⟨(Nat.le_trans (keep_size (w:=w) (g:=g) (row:=none) za12) hk_),(zF BK1.out k_ hk_),(IsS77.fresh za13 k_ hk_)⟩)) (keep_size (w:=w) (g:=g) (row:=none) za12));replace HB:=zk hb;replace BK1:=yq hk BK1 NB1_0;replace HK:=yK HK hk;replace HI0:=zk hi;(try clear hb hk hi ho0))|((with_reducible refine gate_dst (N:=7) rfl ?_);refine zE (cs:=#[.int .i64 0,.string ⟨#[]⟩,.slice none 0 0]) (t:=54) ?_;intro gb80 hg w96 hbox hb;replace HO77:=zk (Kd.N_below (Kd.N_elderB (za4 HO77.out) gb80 (Nat.le_of_eq hg.symm)) hb);replace HB:=zk (below_step za18 hb);have BK80:=zk hbox;have GW80:=zk ((by rw [hg];exact (keep_size (w:=w) (g:=g) (row:=none) za12):w.heap.size≤gb80));have GE80:=zk ((Nat.le_trans HW0.out (by rw [hg];exact (keep_size (w:=w) (g:=g) (row:=none) za12):w.heap.size≤gb80):w0.heap.size≤gb80));have NB1_80:=yn hg BK1;have NB80_1:=yp hg BK1;have NB0_80:=zk (zm hg (IsS77.lt (show IsS77 w0 _ g s0_0 t78 t79 from za13)));have NB80_0:=zk (zM hg (IsS77.lt (show IsS77 w0 _ g s0_0 t78 t79 from za13)));replace BK1:=yb BK1 hb;replace HI0:=zk (IsS77.below za13 hb);replace HK:=yk HK hb;clear hb hbox hg;have hnb97:=NB80_1.out;have hnc97:=NB1_80.out;have hnb98:=NB80_0.out;have hnc98:=NB0_80.out;obtain ⟨hcz99_0,hcz99_1,hcz99_2,hfz99_0,hfz99_1,hfz99_2⟩:=blk3 BK80.out;obtain ⟨Ao100,co100,eo100⟩:=Kd.N_slice HO77.out;subst eo100))
             have n0_:Aside0 (Kd.N k54 54 (((w96.setCell ⟨gb80,0,none⟩ (.int .i64 t73)).setCell ⟨gb80,1,none⟩ (.string t74)).setCell ⟨gb80,2,none⟩ (.slice Ao100 t75.length co100)) w.heap.size (fun k_=>(w.heap.size≤k_)∧k_ ≠ gb1∧k_ ≠ g∧k_ ≠ gb80) (.slice Ao100 t75.length co100) t75):=⟨by (with_reducible repeat ((apply Kd.N_alloc)));exact Kd.N_mono (zfN (zfN (zfN (Kd.N_mono HO77.out (fun k_ hk=>(⟨hk,hk.2⟩:_∧k_ ≠ gb80)))))) (fun _ hk=>⟨hk.1.1.1,⟨hk.1.1.2.1,⟨hk.1.1.2.2,hk.1.2⟩⟩⟩)⟩
             have n1_:Aside0 ((((w96.setCell ⟨gb80,0,none⟩ (.int .i64 t73)).setCell ⟨gb80,1,none⟩ (.string t74)).setCell ⟨gb80,2,none⟩ (.slice Ao100 t75.length co100)).heap[gb1]? = some (.cells #[.int .i64 0,.string ⟨#[]⟩,.slice none 0 0] 54 (0,0))):=⟨zpw BK1.out⟩
             have n2_:Aside0 ((((w96.setCell ⟨gb80,0,none⟩ (.int .i64 t73)).setCell ⟨gb80,1,none⟩ (.string t74)).setCell ⟨gb80,2,none⟩ (.slice Ao100 t75.length co100)).heap[gb80]? = some (.cells #[.int .i64 t73,.string t74,.slice Ao100 t75.length co100] 54 (0,0))):=⟨zpu BK80.out⟩
             have n3_:Aside0 (IsS77 w0 (((w96.setCell ⟨gb80,0,none⟩ (.int .i64 t73)).setCell ⟨gb80,1,none⟩ (.string t74)).setCell ⟨gb80,2,none⟩ (.slice Ao100 t75.length co100)) g s0_0 t78 t79):=⟨za58⟩
             have n4_:Aside0 (KeepBut w (((w96.setCell ⟨gb80,0,none⟩ (.int .i64 t73)).setCell ⟨gb80,1,none⟩ (.string t74)).setCell ⟨gb80,2,none⟩ (.slice Ao100 t75.length co100)) g none):=⟨za49⟩
             have n5_:Aside0 (Below w0.heap.size w0 (((w96.setCell ⟨gb80,0,none⟩ (.int .i64 t73)).setCell ⟨gb80,1,none⟩ (.string t74)).setCell ⟨gb80,2,none⟩ (.slice Ao100 t75.length co100))):=⟨za69⟩
             (try clear HO77)
             (try clear BK1)
             (try clear BK80)
             (try clear HI0)
             (try clear HK)
             (try clear HB)
             generalize (((w96.setCell ⟨gb80,0,none⟩ (.int .i64 t73)).setCell ⟨gb80,1,none⟩ (.string t74)).setCell ⟨gb80,2,none⟩ (.slice Ao100 t75.length co100))=w101 at n0_ n1_ n2_ n3_ n4_ n5_ ⊢
             have HO77:=n0_
             have BK1:=n1_
             have BK80:=n2_
             have HI0:=n3_
             have HK:=n4_
             have HB:=n5_
             clear n0_ n1_ n2_ n3_ n4_ n5_
             replace HO77:=zk (Kd.N_drew HO77.out)
             replace BK1:=zk (blk_drew BK1.out)
             replace BK80:=zk (blk_drew BK80.out)
             replace HI0:=zk (IsS77.drew HI0.out)
             replace HK:=zk (keep_drew HK.out)
             replace HB:=zk (below_drew1 HB.out)
             refine start_ (n:=8) (S:=fun w'=>w'.cell? ⟨gb80,0,none⟩=some (.int .i64 t73)∧w'.cell? ⟨gb80,1,none⟩=some (.string t74)∧w'.cell? ⟨gb80,2,none⟩=some (.slice Ao100 t75.length co100)) (ds:=[]) #[false,false,false,false,false,false,false,false] (by kernel_rfl) rfl rfl ⟨(blk_cell BK80.out 0).trans rfl,(blk_cell BK80.out 1).trans rfl,(blk_cell BK80.out 2).trans rfl⟩ (fun hHeld=>?_);refine with_tabW spec_l3Draw.tab25 spec_l3Draw.bits25 (fun HT_ HW_=>?_)
             generalize w101.drew=w102 at HO77 BK1 BK80 HI0 HK HB hHeld ⊢
             refine zy 1 (some 81) HT_.out ?_
             refine zy 2 (some 82) HT_.out ?_
             refine zy 3 (some 83) HT_.out ?_
             refine ztk 0 (some 80) HT_.out HW_.out hHeld ?_
             refine zon 4 (some 84) HT_.out (fun K hK=>?_)
             refine goes_ Tryz.func88 (by kernel_rfl) rfl #[.pointer (some ⟨g,0,none⟩),.int .i64 (wrap64 (a1 - 1))] (by rfl) rfl rfl za11 ?_
             with_reducible refine (ih kj71 za80 g s0_0 t78 t79 (wrap64 (a1 - 1)) t81 t82 t83 t86 t87 w0 _ za58 za69 A94.out).mono ?_
             rintro e w103 ⟨v84,rfl,ho0,hi,hb,hk⟩
             refine ⟨_,rfl,?_⟩
             have HO85:=zk (Kd.N_lower (Kd.N_mono (ok':=fun k_=>(w.heap.size≤k_)∧some k_ ≠ (.slice Ao100 t75.length co100:Value).ownBlock∧k_ ≠ gb1∧k_ ≠ gb80∧k_ ≠ g) ho0 (fun k_ hk_=>⟨(Nat.le_trans (keep_size (w:=w) (g:=g) (row:=none) za49) hk_),(Kd.fresh' (Kd.N_lt (za4 HO77.out)) k_ hk_),(zF BK1.out k_ hk_),(zF BK80.out k_ hk_),(IsS77.fresh za58 k_ hk_)⟩)) (keep_size (w:=w) (g:=g) (row:=none) za49))
             replace HB:=zk hb
             replace BK1:=yq hk BK1 NB1_0
             replace HO77:=zk (Kd.N_mono (Kd.N_told (Kd.N_oldK (Kd.N_mono (ok:=fun k_=>(((w.heap.size≤k_))∧(k_ ≠ gb1∧(k_ ≠ g∧k_ ≠ gb80)))) (za4 HO77.out) (fun k_ hk_=>(⟨hk_,hk_.2.2.1⟩:_∧k_ ≠ g))) hk) (Kd.N_base ho0)) (fun _ h_=>h_.1))
             replace BK80:=yq hk BK80 NB80_0
             replace HK:=yK HK hk
             replace HI0:=zk hi
             (try clear hb)
             (try clear hb2)
             (try clear hk)
             (try clear hi)
             (try clear ho0)
             obtain ⟨Ao104,co104,eo104⟩:=Kd.N_slice HO85.out
             ((subst eo104))
             refine hK.out _ _ ⟨(blk_cell BK80.out 0).trans rfl,(blk_cell BK80.out 1).trans rfl,(blk_cell BK80.out 2).trans rfl⟩ (fun hHeld=>?_)
             clear hK K
             refine zno (some 84) ?_
             refine zon 5 (some 85) HT_.out (fun K hK=>?_)
             refine Kd.N_lit_step k54 _ 54 ?hg (N':=85) ?hd (xs:=([(⟨t73,t74,t75⟩:S54),(⟨t81,t82,t83⟩:S54)]:List (S54))) (inner:=[.int .i64 t73,.string t74,.slice Ao100 t75.length co100,.int .i64 t81,.string t82,.slice Ao104 t83.length co104]) (ok:=(fun k_=>(w.heap.size≤k_)∧k_ ≠ gb1∧k_ ≠ gb80∧k_ ≠ g)) (okp:=(fun k_=>(w.heap.size≤k_)∧k_ ≠ gb1∧k_ ≠ gb80∧k_ ≠ g)) ?hr ?hp (fun _ hk=>hk) ((show ∀ k_,w103.heap.size≤k_→(fun k_=>(w.heap.size≤k_)∧k_ ≠ gb1∧k_ ≠ gb80∧k_ ≠ g) k_ from fun k_ hk=>⟨(Nat.le_trans (keep_size (w:=w) (g:=g) (row:=none) za49) hk),zF BK1.out k_ hk,zF BK80.out k_ hk,IsS77.fresh za58 k_ hk⟩) _ (Nat.le_refl _)) (Below.refl _ _) (Nat.le_refl _) (by simp) ?_;(case hd=>rfl);(case hg=>rfl);(case hr=>((go_simp;done)));(case hp=>exact (Reps.c3 (show Kd.FK k54 _ _ (⟨t73,t74,t75⟩:S54) [.int .i64 t73,.string t74,.slice Ao100 t75.length co100] from (k54_mkF _ _ (⟨t73,t74,t75⟩:S54) (Kd.N_reads' (Kd.N_mono (ok':=(fun k_=>(w.heap.size≤k_)∧k_ ≠ gb1∧k_ ≠ gb80∧k_ ≠ g)) (HO77.out) (fun k_ hk=>⟨hk.1.1,⟨hk.1.2.1,⟨hk.1.2.2.2,hk.1.2.2.1⟩⟩⟩))).2.1 (Kd.N_F (Kd.N_mono (ok':=(fun k_=>(w.heap.size≤k_)∧k_ ≠ gb1∧k_ ≠ gb80∧k_ ≠ g)) (HO77.out) (fun k_ hk=>⟨hk.1.1,⟨hk.1.2.1,⟨hk.1.2.2.2,hk.1.2.2.1⟩⟩⟩))))) (Reps.c3 (show Kd.FK k54 _ _ (⟨t81,t82,t83⟩:S54) [.int .i64 t81,.string t82,.slice Ao104 t83.length co104] from (k54_mkF _ _ (⟨t81,t82,t83⟩:S54) (Kd.N_reads' (Kd.N_mono (ok':=(fun k_=>(w.heap.size≤k_)∧k_ ≠ gb1∧k_ ≠ gb80∧k_ ≠ g)) (HO85.out) (fun k_ hk=>⟨hk.1,⟨hk.2.2.1,⟨hk.2.2.2.1,hk.2.2.2.2⟩⟩⟩))).2.1 (Kd.N_F (Kd.N_mono (ok':=(fun k_=>(w.heap.size≤k_)∧k_ ≠ gb1∧k_ ≠ gb80∧k_ ≠ g)) (HO85.out) (fun k_ hk=>⟨hk.1,⟨hk.2.2.1,⟨hk.2.2.2.1,hk.2.2.2.2⟩⟩⟩))))) (Reps.none _ _))))
             intro v89 w105 ho106 hb hg_ hnew_
             clear hg_ hnew_
             ((rw [← Ny88.out] at ho106))
             have HO90:=zk (Kd.N_lower ho106 (keep_size (w:=w) (g:=g) (row:=none) za49))
             replace BK1:=yb BK1 hb
             replace BK80:=yb BK80 hb
             replace HB:=zk (below_step za69 hb)
             replace HI0:=zk (IsS77.below za58 hb)
             replace HK:=yk HK hb
             clear HO77
             clear HO85
             clear hb ho106
             obtain ⟨Ao107,co107,eo107⟩:=Kd.N_slice HO90.out
             ((subst eo107))
             refine hK.out _ _ ⟨(blk_cell BK80.out 0).trans rfl,(blk_cell BK80.out 1).trans rfl,(blk_cell BK80.out 2).trans rfl⟩ (fun hHeld=>?_)
             clear hK K
             refine zno (some 85) ?_
             refine zy 6 (some 86) HT_.out ?_
             refine zon 7 none HT_.out (fun K hK=>?_)
             have hs108:w105.cell? ⟨gb1,0,none⟩=some (.int .i64 0):=(blk_cell BK1.out 0).trans rfl
             have hfs108:=blk_frozen BK1.out 0
             have hns108_1:=NB80_1.out
             have hms108_1:=NB1_80.out
             have hs109:w105.cell? ⟨gb1,1,none⟩=some (.string ⟨#[]⟩):=(blk_cell BK1.out 1).trans rfl
             have hfs109:=blk_frozen BK1.out 1
             have hns109_1:=NB80_1.out
             have hms109_1:=NB1_80.out
             have hs110:w105.cell? ⟨gb1,2,none⟩=some (.slice none 0 0):=(blk_cell BK1.out 2).trans rfl
             have hfs110:=blk_frozen BK1.out 2
             have hns110_1:=NB80_1.out
             have hms110_1:=NB1_80.out
             refine skip_ (w1:=?_) (by rfl) rfl ?_ ?_
             rotate_left
             ·go_simp
              rfl
             refine hK.out _ _ ⟨((cell_far (p:=⟨gb1,_,none⟩) NB80_1.out _).trans (((cell_far (p:=⟨gb1,_,none⟩) NB80_1.out _).trans (((cell_far (p:=⟨gb1,_,none⟩) NB80_1.out _).trans (hHeld.1)))))),((cell_far (p:=⟨gb1,_,none⟩) NB80_1.out _).trans (((cell_far (p:=⟨gb1,_,none⟩) NB80_1.out _).trans (((cell_far (p:=⟨gb1,_,none⟩) NB80_1.out _).trans (hHeld.2.1)))))),((cell_far (p:=⟨gb1,_,none⟩) NB80_1.out _).trans (((cell_far (p:=⟨gb1,_,none⟩) NB80_1.out _).trans (((cell_far (p:=⟨gb1,_,none⟩) NB80_1.out _).trans (hHeld.2.2))))))⟩ (fun hHeld=>?_)
             clear hK K
             refine done_ (done_of HT_.out (by kernel_rfl)) ?_
             try go_wp2
             refine bodyPost_ret (results_cell_row rfl _ _ gb1 54 #[.int .i64 5,.string ⟨#[]⟩,.slice Ao107 y88088.length co107] (0,0) _ rfl (zpu BK1.out) Tryz.underlying54 rfl (by kernel_rfl)) rfl ?_
             exact ⟨_,by (rfl),by (with_reducible repeat ((apply Kd.N_alloc)));exact Kd.N_mono (zfN (zfN (zfN (Kd.N_mono HO90.out (fun k_ hk=>(⟨hk,hk.2.1⟩:_∧k_ ≠ gb1)))))) (fun _ hk=>hk.1.1),za58,za69,za49⟩
   all_goals
    simp only [Option.some.injEq,Prod.mk.injEq] at H
    obtain ⟨rfl,rfl,rfl,rfl,rfl⟩:=H
    go_wp2_with (first|((with_reducible refine gate_callee (f:=42) rfl ?_);refine zg (some 15) Tryz.func42 #[.pointer (some ⟨g,0,none⟩),.int .i64 8] rfl za11 ?_;(with_reducible refine (spec_l1Below.calls g s0_0 x1001_2 x1002_2 8 t5 t6 t7 w0 _ za13 za18 A9.out).mono ?_);rintro e w11 ⟨rfl,hi,hb,hk⟩;refine ⟨_,rfl,?_⟩;replace BK1:=yq hk BK1 NB1_0;replace HK:=yK HK hk;replace HB:=zk hb;replace HI0:=zk hi;(try clear hb hk hi);have hnb12:=NB1_0.out;have hnc12:=NB0_1.out;obtain ⟨hcz13_0,hcz13_1,hcz13_2,hfz13_0,hfz13_1,hfz13_2⟩:=blk3 BK1.out)|((with_reducible refine gate_dst (N:=26) rfl ?_);refine Kd.R_lit Kd.string _ 9 ?hg (N:=26) ?hd (xs:=([⟨#[97]⟩,⟨#[97]⟩,⟨#[98]⟩,⟨#[98]⟩,⟨#[99]⟩]:List ByteArray)) (inner:=[.string ⟨#[97]⟩,.string ⟨#[97]⟩,.string ⟨#[98]⟩,.string ⟨#[98]⟩,.string ⟨#[99]⟩]) (ok:=fun _=>True) (okp:=fun _=>True) ?hr ?hp (fun _ hk=>hk) trivial (Below.refl _ _) (Nat.le_refl _) (by simp) ?_;(case hd=>rfl);(case hg=>rfl);(case hr=>((go_simp;done)));(case hp=>exact (Reps.one (show Kd.M Kd.string _ _ _ (⟨#[97]⟩:ByteArray) [.string ⟨#[97]⟩] from rfl) (Reps.one (show Kd.M Kd.string _ _ _ (⟨#[97]⟩:ByteArray) [.string ⟨#[97]⟩] from rfl) (Reps.one (show Kd.M Kd.string _ _ _ (⟨#[98]⟩:ByteArray) [.string ⟨#[98]⟩] from rfl) (Reps.one (show Kd.M Kd.string _ _ _ (⟨#[98]⟩:ByteArray) [.string ⟨#[98]⟩] from rfl) (Reps.one (show Kd.M Kd.string _ _ _ (⟨#[99]⟩:ByteArray) [.string ⟨#[99]⟩] from rfl) (Reps.none _ _)))))));intro v9 w24 ho25 hb hg_ hnew_;clear hg_ hnew_;((rw [← Ny8.out] at ho25));have HO10:=zk (Kd.R_lower (Kd.R_newM (M:=fun k_=>(w.heap.size≤k_)) ho25 (keep_size (w:=w) (g:=g) (row:=none) za12) (fun k_ h_=>h_)) (keep_size (w:=w) (g:=g) (row:=none) za12));replace BK1:=yb BK1 hb;replace HB:=zk (below_step za18 hb);replace HI0:=zk (IsS77.below za13 hb);replace HK:=yk HK hb;clear hb ho25;obtain ⟨Ao26,co26,eo26⟩:=Kd.R_slice HO10.out;subst eo26)|((with_reducible refine gate_callee (f:=38) rfl ?_);refine zg (some 27) Tryz.func38 #[.pointer (some ⟨g,0,none⟩),.slice Ao26 y88008.length co26] rfl za11 ?_;(with_reducible refine (spec_l1Pick.calls g s0_0 t6 t7 _ _ y88008 t11 t12 t13 w0 _ za13 za18 ?side3 ?side4 ?side5 A22.out).mono ?_);(case side3=>repeat ((exact (Kd.R_reads' HO10.out).2.2)));(case side4=>exact (Kd.R_reads' HO10.out).2.1);(case side5=>exact far_slice (IsS77.own_ne HI0.out HO10.out (by decide)));rintro e w27 ⟨rfl,hi,hb,hk⟩;refine ⟨_,rfl,?_⟩;replace BK1:=yq hk BK1 NB1_0;replace HO10:=zk (Kd.R_mono (Kd.R_keep (IsS77.apart (show IsS77 w0 _ g s0_0 t6 t7 from za13) (za1 HO10.out) (by decide)) hk (fun _ h=>h.2)) (fun _ h=>h.1));replace HK:=yK HK hk;replace HB:=zk hb;replace HI0:=zk hi;(try clear hb hk hi);have hnb28:=NB1_0.out;have hnc28:=NB0_1.out;obtain ⟨hcz29_0,hcz29_1,hcz29_2,hfz29_0,hfz29_1,hfz29_2⟩:=blk3 BK1.out))
    first
    | (
       clear fin0_
       refine bodyPost_ret (results_cell_row rfl _ _ gb1 54 #[.int .i64 3,.string t11,.slice none 0 0] (0,0) _ rfl (zpu BK1.out) Tryz.underlying54 rfl (by kernel_rfl)) rfl ?_
       exact ⟨_,za24,za94,za63,za65,za67⟩)
    | (
       clear fin1_
       refine bodyPost_ret (results_cell_row rfl _ _ gb1 54 #[.int .i64 2,.string ⟨#[]⟩,.slice none 0 0] (0,0) _ rfl (zpu BK1.out) Tryz.underlying54 rfl (by kernel_rfl)) rfl ?_
       exact ⟨_,za24,za94,za63,za65,za67⟩)
    | (
       clear fin2_
       refine bodyPost_ret (results_cell_row rfl _ _ gb1 54 #[.int .i64 4,.string ⟨#[]⟩,.slice none 0 0] (0,0) _ rfl (zpu BK1.out) Tryz.underlying54 rfl (by kernel_rfl)) rfl ?_
       exact ⟨_,za24,za94,za63,za65,za67⟩)
    | (
       clear fin3_
       refine bodyPost_ret (results_cell_row rfl _ _ gb1 54 #[.int .i64 1,.string ⟨#[]⟩,.slice none 0 0] (0,0) _ rfl (zpu BK1.out) Tryz.underlying54 rfl (by kernel_rfl)) rfl ?_
       exact ⟨_,by (rfl),by (exact Kd.N_nil _ _ _ _ _),za13,za18,za12⟩)
mutual
def spec_l3Left.l0:Nat→Int→Int→Int→ByteArray→List (S54)→Option (Int)
 | 0,_,_,_,_,_=>none
 | k+1,x1,x5,x98002000,x98002001,x98002002=>if x5 < (x98002002.length:Int) then (if x1 ≥ 0 then (if 0≤x5 then ((spec_l3Left.f k ((rd_T54 x98002002 x5).f0) ((rd_T54 x98002002 x5).f1) ((rd_T54 x98002002 x5).f2) x1).bind fun t98003=>(spec_l3Left.l0 k t98003 (wrap64 (x5+1)) x98002000 x98002001 x98002002)) else (none)) else (some x1)) else (some x1)
def spec_l3Left.f:Nat→Int→ByteArray→List (S54)→Int→Option (Int)
 | 0,_,_,_,_=>none
 | k+1,a0_0,a0_1,l0_2,a1=>spec_l3Left.l0 k (wrap64 (a1 - 1)) 0 a0_0 a0_1 l0_2
end
theorem spec_l3Left.calls (k:Nat):∀ (a0_0:Int) (a0_1:ByteArray) (A0_2:Option Addr) (c0_2:Nat) (l0_2:List (S54)) (a1:Int) (r:Int) (w:World) (hr0_2:Kd.C k54 w A0_2 l0_2.length l0_2) (hc0_2:l0_2.length≤c0_2) (h:spec_l3Left.f k a0_0 a0_1 l0_2 a1=some r),
   Calls Tryz.prog 98 #[.agg #[.int .i64 a0_0,.string a0_1,.slice A0_2 l0_2.length c0_2],.int .i64 a1] w fun e w'=>e = .returned (.int .i64 r)∧Below w.heap.size w w':=by
 induction k using Nat.strongRecOn with
 | _ k ih =>
 intro a0_0 a0_1 A0_2 c0_2 l0_2 a1 r w hr0_2 hc0_2 h
 cases k with
 | zero=>exact absurd h (by simp [spec_l3Left.f])
 | succ k =>
 simp only [spec_l3Left.f] at h
 have hu54:=Tryz.underlying54
 have HR0_2:=zk hr0_2
 have HC0_2:=zk hc0_2
 clear hr0_2 hc0_2
 have HB:=zk (Below.refl w.heap.size w)
 have H:=h
 clear h
 have H':=zk H
 clear H
 go_enter Tryz.func98,Tryz.ntmps98
 go_wp2_with ((((with_reducible refine gate_dst (N:=2) rfl ?_);refine zE (cs:=#[.int .i64 a0_0,.string a0_1,.slice A0_2 l0_2.length c0_2]) (t:=54) ?_;intro gb1 hg w3 hbox hb;have BK1:=zk hbox;have GW1:=zk (zs (w:=w) hg za8);have GE1:=GW1;replace HB:=yB HB hb;clear hb hbox hg)))
 try simp only [Act.put,zt,zv,zu]
 go_loopg [1,5] k (fun kq v1 v5 w'=>∃ (x1_1:Int) (x5_1:Int),v1 = .int .i64 x1_1∧v5 = .int .i64 x5_1∧Aside0 (spec_l3Left.l0 kq x1_1 x5_1 a0_0 a0_1 l0_2=some r)∧Aside0 (kq≤k)∧Aside0 (w'.heap[gb1]? = some (.cells #[.int .i64 a0_0,.string a0_1,(.slice A0_2 l0_2.length c0_2)] 54 (0,0)))∧Aside0 (Below w.heap.size w w'))
 case atStart=>exact ⟨(wrap64 (a1 - 1)),(0),za33,za33,H',⟨Nat.le_refl _⟩,⟨za3 BK1.out⟩,⟨za8⟩⟩
 case round =>
  clear H'
  obtain ⟨x1_1,x5_1,rfl,rfl,HA,HK1,BK1,HB⟩:=hrel
  cases gk with
  | zero=>exact absurd HA.out (by simp [spec_l3Left.l0])
  | succ k1 =>
   have H:=HA.out
   clear HA
   simp only [spec_l3Left.l0] at H
   by_cases c4:x5_1 < (l0_2.length:Int)
   rw [if_pos c4] at H
   have c4b0:=zdl c4
   clear c4
   by_cases c5:x1_1 ≥ 0
   rw [if_pos c5] at H
   have c5b0:=zdle c5
   clear c5
   by_cases c6:0≤x5_1
   · rw [if_pos c6] at H
     have c6b0:=zdle c6
     clear c6
     obtain ⟨t3,A7,H⟩:=zO H
     try dsimp only at H
     have H':=zk H
     clear H
     obtain ⟨hcz8_0,hcz8_1,hcz8_2,hfz8_0,hfz8_1,hfz8_2⟩:=blk3 BK1.out
     have p98002:0≤(x5_1:Int):=of_decide_eq_true za25
     have q98002:x5_1 < (l0_2.length:Int):=of_decide_eq_true za25
     obtain ⟨ad98002,A98002_2,c98002_2,e98002,hx98002_0,hx98002_1,hx98002_2,hl98002_2,hi98002_2⟩:=at_T54 HR0_2.out x5_1 p98002 q98002
     cases e98002
     replace hx98002_0:=zx HB.out hx98002_0
     replace hx98002_1:=zx HB.out hx98002_1
     replace hx98002_2:=zx HB.out hx98002_2
     have HR98002_2:=zk hi98002_2
     have HC98002_2:=zk hl98002_2
     clear hi98002_2 hl98002_2
     replace p98002:=eq_true p98002
     replace q98002:=eq_true q98002
     go_wp2_with ((((with_reducible refine gate_callee (f:=98) rfl ?_);refine zg (some 25) Tryz.func98 #[.agg #[.int .i64 ((rd_T54 l0_2 x5_1).f0),.string ((rd_T54 l0_2 x5_1).f1),.slice A98002_2 ((rd_T54 l0_2 x5_1).f2).length c98002_2],.int .i64 x1_1] rfl za11 ?_;(with_reducible refine (ih k1 za43 ((rd_T54 l0_2 x5_1).f0) ((rd_T54 l0_2 x5_1).f1) _ _ ((rd_T54 l0_2 x5_1).f2) x1_1 t3 _ ?side1 ?side2 A7.out).mono ?_);(case side1=>repeat ((exact (Kd.C_below HR98002_2.out HB.out))));(case side2=>exact HC98002_2.out);rintro e w9 ⟨rfl,hb⟩;refine ⟨_,rfl,?_⟩;replace BK1:=yb BK1 hb;replace HB:=yB HB hb;(try clear hb))))
     go_roundg k1
     case measure=>have:=HK1.out;omega
     case rel=>exact ⟨(t3),(wrap64 (x5_1+1)),za33,za33,H',⟨za43⟩,⟨za3 BK1.out⟩,⟨za8⟩⟩
   · rw [if_neg c6] at H
     exact absurd H (by simp)
   rw [if_neg c5] at H
   have c5b0:=zdnle c5
   clear c5
   rotate_left
   rw [if_neg c4] at H
   have c4b0:=zdnl c4
   clear c4
   rotate_left
   all_goals
    obtain rfl:=zi H
    obtain ⟨hcz10_0,hcz10_1,hcz10_2,hfz10_0,hfz10_1,hfz10_2⟩:=blk3 BK1.out
    go_wp2
    go_ret
    exact ⟨by (rfl),za8⟩
mutual
def spec_l3Depth.l0:Nat→Int→Int→Int→ByteArray→List (S54)→Option (Int)
 | 0,_,_,_,_,_=>none
 | k+1,x3,x4,x99002000,x99002001,x99002002=>if x4 < (x99002002.length:Int) then (if 0≤x4 then ((spec_l3Depth.f k ((rd_T54 x99002002 x4).f0) ((rd_T54 x99002002 x4).f1) ((rd_T54 x99002002 x4).f2)).bind fun t99003=>((spec_l1Max.f x3 t99003).bind fun t99004=>(spec_l3Depth.l0 k t99004 (wrap64 (x4+1)) x99002000 x99002001 x99002002))) else (none)) else (some (wrap64 (x3+1)))
def spec_l3Depth.f:Nat→Int→ByteArray→List (S54)→Option (Int)
 | 0,_,_,_=>none
 | k+1,a0_0,a0_1,l0_2=>spec_l3Depth.l0 k 0 0 a0_0 a0_1 l0_2
end
theorem spec_l3Depth.calls (k:Nat):∀ (a0_0:Int) (a0_1:ByteArray) (A0_2:Option Addr) (c0_2:Nat) (l0_2:List (S54)) (r:Int) (w:World) (hr0_2:Kd.C k54 w A0_2 l0_2.length l0_2) (hc0_2:l0_2.length≤c0_2) (h:spec_l3Depth.f k a0_0 a0_1 l0_2=some r),
   Calls Tryz.prog 99 #[.agg #[.int .i64 a0_0,.string a0_1,.slice A0_2 l0_2.length c0_2]] w fun e w'=>e = .returned (.int .i64 r)∧Below w.heap.size w w':=by
 induction k using Nat.strongRecOn with
 | _ k ih =>
 intro a0_0 a0_1 A0_2 c0_2 l0_2 r w hr0_2 hc0_2 h
 cases k with
 | zero=>exact absurd h (by simp [spec_l3Depth.f])
 | succ k =>
 simp only [spec_l3Depth.f] at h
 have hu54:=Tryz.underlying54
 have HR0_2:=zk hr0_2
 have HC0_2:=zk hc0_2
 clear hr0_2 hc0_2
 have HB:=zk (Below.refl w.heap.size w)
 have H:=h
 clear h
 have H':=zk H
 clear H
 go_enter Tryz.func99,Tryz.ntmps99
 go_wp2_with ((((with_reducible refine gate_dst (N:=1) rfl ?_);refine zE (cs:=#[.int .i64 a0_0,.string a0_1,.slice A0_2 l0_2.length c0_2]) (t:=54) ?_;intro gb1 hg w2 hbox hb;have BK1:=zk hbox;have GW1:=zk (zs (w:=w) hg za8);have GE1:=GW1;replace HB:=yB HB hb;clear hb hbox hg)))
 try simp only [Act.put,zt,zv,zu]
 go_loopg [3,4] k (fun kq v3 v4 w'=>∃ (x3_1:Int) (x4_1:Int),v3 = .int .i64 x3_1∧v4 = .int .i64 x4_1∧Aside0 (spec_l3Depth.l0 kq x3_1 x4_1 a0_0 a0_1 l0_2=some r)∧Aside0 (kq≤k)∧Aside0 (w'.heap[gb1]? = some (.cells #[.int .i64 a0_0,.string a0_1,(.slice A0_2 l0_2.length c0_2)] 54 (0,0)))∧Aside0 (Below w.heap.size w w'))
 case atStart=>exact ⟨(0),(0),za33,za33,H',⟨Nat.le_refl _⟩,⟨za3 BK1.out⟩,⟨za8⟩⟩
 case round =>
  clear H'
  obtain ⟨x3_1,x4_1,rfl,rfl,HA,HK1,BK1,HB⟩:=hrel
  cases gk with
  | zero=>exact absurd HA.out (by simp [spec_l3Depth.l0])
  | succ k1 =>
   have H:=HA.out
   clear HA
   simp only [spec_l3Depth.l0] at H
   by_cases c3:x4_1 < (l0_2.length:Int)
   rw [if_pos c3] at H
   have c3b0:=zdl c3
   clear c3
   by_cases c4:0≤x4_1
   ·rw [if_pos c4] at H
    have c4b0:=zdle c4
    clear c4
    obtain ⟨t3,A5,H⟩:=zO H
    try dsimp only at H
    obtain ⟨t4,A6,H⟩:=zO H
    try dsimp only at H
    have H':=zk H
    clear H
    obtain ⟨hcz7_0,hcz7_1,hcz7_2,hfz7_0,hfz7_1,hfz7_2⟩:=blk3 BK1.out
    have p99002:0≤(x4_1:Int):=of_decide_eq_true za25
    have q99002:x4_1 < (l0_2.length:Int):=of_decide_eq_true za25
    obtain ⟨ad99002,A99002_2,c99002_2,e99002,hx99002_0,hx99002_1,hx99002_2,hl99002_2,hi99002_2⟩:=at_T54 HR0_2.out x4_1 p99002 q99002
    cases e99002
    replace hx99002_0:=zx HB.out hx99002_0
    replace hx99002_1:=zx HB.out hx99002_1
    replace hx99002_2:=zx HB.out hx99002_2
    have HR99002_2:=zk hi99002_2
    have HC99002_2:=zk hl99002_2
    clear hi99002_2 hl99002_2
    replace p99002:=eq_true p99002
    replace q99002:=eq_true q99002
    go_wp2_with (first|((with_reducible refine gate_callee (f:=99) rfl ?_);refine zg (some 18) Tryz.func99 #[.agg #[.int .i64 ((rd_T54 l0_2 x4_1).f0),.string ((rd_T54 l0_2 x4_1).f1),.slice A99002_2 ((rd_T54 l0_2 x4_1).f2).length c99002_2]] rfl za11 ?_;(with_reducible refine (ih k1 za43 ((rd_T54 l0_2 x4_1).f0) ((rd_T54 l0_2 x4_1).f1) _ _ ((rd_T54 l0_2 x4_1).f2) t3 _ ?side1 ?side2 A5.out).mono ?_);(case side1=>repeat ((exact (Kd.C_below HR99002_2.out HB.out))));(case side2=>exact HC99002_2.out);rintro e w8 ⟨rfl,hb⟩;refine ⟨_,rfl,?_⟩;replace BK1:=yb BK1 hb;replace HB:=yB HB hb;(try clear hb))|((with_reducible refine gate_callee (f:=106) rfl ?_);refine zg (some 19) Tryz.func106 #[.int .i64 x3_1,.int .i64 t3] rfl za11 ?_;(with_reducible refine (spec_l1Max.calls x3_1 t3 t4 _ A6.out).mono ?_);rintro e w' ⟨rfl,⟨nd,rfl⟩⟩;refine ⟨_,rfl,?_⟩))
    go_roundg k1
    case measure=>have:=HK1.out;omega
    case rel=>exact ⟨(t4),(wrap64 (x4_1+1)),za33,za33,H',⟨za43⟩,⟨za3 BK1.out⟩,⟨za8⟩⟩
   ·rw [if_neg c4] at H
    exact absurd H (by simp)
   ·rw [if_neg c3] at H
    have c3b0:=zdnl c3
    clear c3
    obtain rfl:=zi H
    obtain ⟨hcz9_0,hcz9_1,hcz9_2,hfz9_0,hfz9_1,hfz9_2⟩:=blk3 BK1.out
    go_wp2
    go_ret
    exact ⟨by (rfl),za8⟩
def spec_l3Args.j0:Nat→Int→Bool→Option (Int)
 | 0,_,_=>none
 | k+1,x3,x4=>if x4=true then (some 2) else (if x3=8 then (some 1) else (if x3=9 then (some 1) else (some 0)))
def spec_l3Args.f (k:Nat) (a0:Int):Option (Int):=if a0=5 then (spec_l3Args.j0 k a0 (a0 == 5)) else (if a0=6 then (spec_l3Args.j0 k a0 (a0 == 6)) else (spec_l3Args.j0 k a0 (a0 == 7)))
theorem spec_l3Args.calls (k:Nat) (a0:Int) (r:Int) (w:World) (h:spec_l3Args.f k a0=some r) :
   Calls Tryz.prog 107 #[.int .i64 a0] w fun e w'=>e = .returned (.int .i64 r)∧Drawn0 w w':=by
 have H:=h
 unfold spec_l3Args.f at H
 clear h
 have HC2:=zk H
 clear H
 go_enter Tryz.func107,Tryz.ntmps107
 go_upto_if 4 with (fail)
 go_cut [4] (fun v4 wc=>∃ (kq:Nat) (x4_1:Bool),v4 = .bool x4_1∧Aside0 (spec_l3Args.j0 kq a0 x4_1=some r)∧Aside0 (kq≤k)∧Drawn0 w wc)
 case first =>
  have H:=HC2.out
  clear HC2
  by_cases c3:a0=5
  · rw [if_pos c3] at H
    have c3b0:=zbt c3
    have c3b1:=zqn c3
    clear c3
    ((rw [c3b0]))
    have H':=zk H
    clear H
    go_wp2
    go_meet
    case rel=>exact ⟨_,((a0 == 5)),za33,H',⟨by (omega)⟩,za20⟩
  rw [if_neg c3] at H
  have c3b0:=zbn c3
  have c3b1:=zqt c3
  ((rw [c3b0]))
  by_cases c4:a0=6
  · rw [if_pos c4] at H
    have c4b0:=zbt c4
    have c4b1:=zqn c4
    clear c4
    have H':=zk H
    clear H
    go_wp2
    go_meet
    case rel=>exact ⟨_,((a0 == 6)),za33,H',⟨by (omega)⟩,za20⟩
  · rw [if_neg c4] at H
    have c4b0:=zbn c4
    have c4b1:=zqt c4
    have H':=zk H
    clear H
    go_wp2
    go_meet
    case rel=>exact ⟨_,((a0 == 7)),za33,H',⟨by (omega)⟩,za20⟩
 case rest =>
  clear HC2
  obtain ⟨kq,x4_1,rfl,HA,HJ1,⟨mc1,rfl⟩⟩:=hcut
  cases kq with
  | zero=>exact absurd HA.out (by simp [spec_l3Args.j0])
  | succ kj1 =>
   have H:=HA.out
   clear HA
   simp only [spec_l3Args.j0] at H
   by_cases c5:x4_1=true
   subst c5
   rw [if_pos rfl] at H
   try dsimp only at H
   rotate_left
   replace c5:=Bool.eq_false_iff.mpr c5
   subst c5
   rw [if_neg zff] at H
   try dsimp only at H
   by_cases c6:a0=8
   rw [if_pos c6] at H
   have c6b0:=zbt c6
   have c6b1:=zqn c6
   clear c6
   rotate_left
   rw [if_neg c6] at H
   have c6b0:=zbn c6
   have c6b1:=zqt c6
   by_cases c7:a0=9
   rw [if_pos c7] at H
   have c7b0:=zbt c7
   have c7b1:=zqn c7
   clear c7
   rotate_left
   rw [if_neg c7] at H
   have c7b0:=zbn c7
   have c7b1:=zqt c7
   rotate_left
   all_goals
    obtain rfl:=zi H
    go_wp2
    go_ret
    exact ⟨za33,za20⟩
mutual
def spec_l3All.l0:Nat→Int→Int→ByteArray→List (S54)→Option (Bool)
 | 0,_,_,_,_=>none
 | k+1,x3,x100002000,x100002001,x100002002=>if x3 < (x100002002.length:Int) then (if 0≤x3 then ((spec_l3All.f k ((rd_T54 x100002002 x3).f0) ((rd_T54 x100002002 x3).f1) ((rd_T54 x100002002 x3).f2)).bind fun t100003=>(if t100003=true then (spec_l3All.l0 k (wrap64 (x3+1)) x100002000 x100002001 x100002002) else (some false))) else (none)) else (if x100002000=3 then (if (x100002001.size:Int)=1 then ((spec_IsWord.f k x100002001).bind fun t100004=>(if t100004=true then (some ((x100002002.length:Int) == 0)) else (some false))) else (some false)) else ((spec_l1In.f x100002000 1 9).bind fun t100005=>(if t100005=true then (if x100002001.toList=([]:List UInt8) then ((spec_l3Args.f k x100002000).bind fun t100006=>(some ((x100002002.length:Int) == t100006))) else (some false)) else (some false))))
def spec_l3All.f:Nat→Int→ByteArray→List (S54)→Option (Bool)
 | 0,_,_,_=>none
 | k+1,a0_0,a0_1,l0_2=>spec_l3All.l0 k 0 a0_0 a0_1 l0_2
end
theorem spec_l3All.calls (k:Nat):∀ (a0_0:Int) (a0_1:ByteArray) (A0_2:Option Addr) (c0_2:Nat) (l0_2:List (S54)) (r:Bool) (w:World) (hr0_2:Kd.C k54 w A0_2 l0_2.length l0_2) (hc0_2:l0_2.length≤c0_2) (h:spec_l3All.f k a0_0 a0_1 l0_2=some r),
   Calls Tryz.prog 100 #[.agg #[.int .i64 a0_0,.string a0_1,.slice A0_2 l0_2.length c0_2]] w fun e w'=>e = .returned (.bool r)∧Below w.heap.size w w':=by
 induction k using Nat.strongRecOn with
 | _ k ih =>
 intro a0_0 a0_1 A0_2 c0_2 l0_2 r w hr0_2 hc0_2 h
 cases k with
 | zero=>exact absurd h (by simp [spec_l3All.f])
 | succ k =>
 simp only [spec_l3All.f] at h
 have hu54:=Tryz.underlying54
 have HR0_2:=zk hr0_2
 have HC0_2:=zk hc0_2
 clear hr0_2 hc0_2
 have HB:=zk (Below.refl w.heap.size w)
 have H:=h
 clear h
 have H':=zk H
 clear H
 go_enter Tryz.func100,Tryz.ntmps100
 go_wp2_with ((((with_reducible refine gate_dst (N:=1) rfl ?_);(try (refine gate_guard (by rfl) ?_;dsimp only));refine zE (cs:=#[.int .i64 a0_0,.string a0_1,.slice A0_2 l0_2.length c0_2]) (t:=54) ?_;intro gb1 hg w2 hbox hb;have BK1:=zk hbox;have GW1:=zk (zs (w:=w) hg za8);have GE1:=GW1;replace HB:=yB HB hb;clear hb hbox hg)))
 repeat (go_quiet ((((with_reducible refine gate_dst (N:=1) rfl ?_);(try (refine gate_guard (by rfl) ?_;dsimp only));refine zE (cs:=#[.int .i64 a0_0,.string a0_1,.slice A0_2 l0_2.length c0_2]) (t:=54) ?_;intro gb1 hg w2 hbox hb;have BK1:=zk hbox;have GW1:=zk (zs (w:=w) hg za8);have GE1:=GW1;replace HB:=yB HB hb;clear hb hbox hg)));try go_wp2_with ((((with_reducible refine gate_dst (N:=1) rfl ?_);(try (refine gate_guard (by rfl) ?_;dsimp only));refine zE (cs:=#[.int .i64 a0_0,.string a0_1,.slice A0_2 l0_2.length c0_2]) (t:=54) ?_;intro gb1 hg w2 hbox hb;have BK1:=zk hbox;have GW1:=zk (zs (w:=w) hg za8);have GE1:=GW1;replace HB:=yB HB hb;clear hb hbox hg))))
 try simp only [Act.put,zt,zv,zu]
 go_loopg [3] k (fun kq v3 w'=>∃ (x3_1:Int),v3 = .int .i64 x3_1∧Aside0 (spec_l3All.l0 kq x3_1 a0_0 a0_1 l0_2=some r)∧Aside0 (kq≤k)∧Aside0 (w'.heap[gb1]? = some (.cells #[.int .i64 a0_0,.string a0_1,(.slice A0_2 l0_2.length c0_2)] 54 (0,0)))∧Aside0 (Below w.heap.size w w'))
 case atStart=>exact ⟨(0),za33,H',⟨Nat.le_refl _⟩,⟨za3 BK1.out⟩,⟨za8⟩⟩
 case round =>
  clear H'
  obtain ⟨x3_1,rfl,HA,HK1,BK1,HB⟩:=hrel
  cases gk with
  | zero=>exact absurd HA.out (by simp [spec_l3All.l0])
  | succ k1 =>
   have H:=HA.out
   clear HA
   simp only [spec_l3All.l0] at H
   by_cases c3:x3_1 < (l0_2.length:Int)
   rw [if_pos c3] at H
   have c3b0:=zdl c3
   clear c3
   by_cases c4:0≤x3_1
   rw [if_pos c4] at H
   have c4b0:=zdle c4
   clear c4
   obtain ⟨t3,A5,H⟩:=zO H
   try dsimp only at H
   by_cases c6:t3=true
   · subst c6
     rw [if_pos rfl] at H
     try dsimp only at H
     have H':=zk H
     clear H
     obtain ⟨hcz7_0,hcz7_1,hcz7_2,hfz7_0,hfz7_1,hfz7_2⟩:=blk3 BK1.out
     have p100002:0≤(x3_1:Int):=of_decide_eq_true za25
     have q100002:x3_1 < (l0_2.length:Int):=of_decide_eq_true za25
     obtain ⟨ad100002,A100002_2,c100002_2,e100002,hx100002_0,hx100002_1,hx100002_2,hl100002_2,hi100002_2⟩:=at_T54 HR0_2.out x3_1 p100002 q100002
     cases e100002
     replace hx100002_0:=zx HB.out hx100002_0
     replace hx100002_1:=zx HB.out hx100002_1
     replace hx100002_2:=zx HB.out hx100002_2
     have HR100002_2:=zk hi100002_2
     have HC100002_2:=zk hl100002_2
     clear hi100002_2 hl100002_2
     replace p100002:=eq_true p100002
     replace q100002:=eq_true q100002
     go_wp2_with (((go_at_call 100;(with_reducible refine (ih k1 za43 ((rd_T54 l0_2 x3_1).f0) ((rd_T54 l0_2 x3_1).f1) _ _ ((rd_T54 l0_2 x3_1).f2) true _ ?side1 ?side2 A5.out).mono ?_);(case side1=>repeat ((exact (Kd.C_below HR100002_2.out HB.out))));(case side2=>exact HC100002_2.out);rintro e w8 ⟨rfl,hb⟩;replace BK1:=yb BK1 hb;replace HB:=yB HB hb;(try clear hb))))
     repeat (go_quiet (((go_at_call 100;(with_reducible refine (ih k1 za43 ((rd_T54 l0_2 x3_1).f0) ((rd_T54 l0_2 x3_1).f1) _ _ ((rd_T54 l0_2 x3_1).f2) true _ ?side1 ?side2 A5.out).mono ?_);(case side1=>repeat ((exact (Kd.C_below HR100002_2.out HB.out))));(case side2=>exact HC100002_2.out);rintro e w8 ⟨rfl,hb⟩;replace BK1:=yb BK1 hb;replace HB:=yB HB hb;(try clear hb))));try go_wp2_with (((go_at_call 100;(with_reducible refine (ih k1 za43 ((rd_T54 l0_2 x3_1).f0) ((rd_T54 l0_2 x3_1).f1) _ _ ((rd_T54 l0_2 x3_1).f2) true _ ?side1 ?side2 A5.out).mono ?_);(case side1=>repeat ((exact (Kd.C_below HR100002_2.out HB.out))));(case side2=>exact HC100002_2.out);rintro e w8 ⟨rfl,hb⟩;replace BK1:=yb BK1 hb;replace HB:=yB HB hb;(try clear hb)))))
     go_roundg k1
     case measure=>have:=HK1.out;omega
     case rel=>exact ⟨(wrap64 (x3_1+1)),za33,H',⟨za43⟩,⟨za3 BK1.out⟩,⟨za8⟩⟩
   replace c6:=Bool.eq_false_iff.mpr c6
   subst c6
   rw [if_neg zff] at H
   try dsimp only at H
   obtain rfl:=zi H
   obtain ⟨hcz9_0,hcz9_1,hcz9_2,hfz9_0,hfz9_1,hfz9_2⟩:=blk3 BK1.out
   have p100002:0≤(x3_1:Int):=of_decide_eq_true za25
   have q100002:x3_1 < (l0_2.length:Int):=of_decide_eq_true za25
   obtain ⟨ad100002,A100002_2,c100002_2,e100002,hx100002_0,hx100002_1,hx100002_2,hl100002_2,hi100002_2⟩:=at_T54 HR0_2.out x3_1 p100002 q100002
   cases e100002
   replace hx100002_0:=zx HB.out hx100002_0
   replace hx100002_1:=zx HB.out hx100002_1
   replace hx100002_2:=zx HB.out hx100002_2
   have HR100002_2:=zk hi100002_2
   have HC100002_2:=zk hl100002_2
   clear hi100002_2 hl100002_2
   replace p100002:=eq_true p100002
   replace q100002:=eq_true q100002
   rotate_left
   · rw [if_neg c4] at H
     exact absurd H (by simp)
   rw [if_neg c3] at H
   have c3b0:=zdnl c3
   clear c3
   by_cases c11:a0_0=3
   rw [if_pos c11] at H
   have c11b0:=zbt c11
   have c11b1:=zqn c11
   clear c11
   by_cases c12:(a0_1.size:Int)=1
   rw [if_pos c12] at H
   have c12b0:=zbt c12
   have c12b1:=zqn c12
   clear c12
   obtain ⟨t4,A13,H⟩:=zO H
   try dsimp only at H
   by_cases c14:t4=true
   subst c14
   rw [if_pos rfl] at H
   try dsimp only at H
   obtain rfl:=zi H
   obtain ⟨hcz15_0,hcz15_1,hcz15_2,hfz15_0,hfz15_1,hfz15_2⟩:=blk3 BK1.out
   rotate_left
   replace c14:=Bool.eq_false_iff.mpr c14
   subst c14
   rw [if_neg zff] at H
   try dsimp only at H
   obtain rfl:=zi H
   obtain ⟨hcz16_0,hcz16_1,hcz16_2,hfz16_0,hfz16_1,hfz16_2⟩:=blk3 BK1.out
   rotate_left
   rw [if_neg c12] at H
   have c12b0:=zbn c12
   have c12b1:=zqt c12
   obtain rfl:=zi H
   obtain ⟨hcz17_0,hcz17_1,hcz17_2,hfz17_0,hfz17_1,hfz17_2⟩:=blk3 BK1.out
   rotate_left
   rw [if_neg c11] at H
   have c11b0:=zbn c11
   have c11b1:=zqt c11
   obtain ⟨t5,A18,H⟩:=zO H
   try dsimp only at H
   by_cases c19:t5=true
   subst c19
   rw [if_pos rfl] at H
   try dsimp only at H
   by_cases c20:a0_1.toList=([]:List UInt8)
   rw [if_pos c20] at H
   have c20b0:=zbt c20
   have c20b1:=zqn c20
   clear c20
   obtain ⟨t6,A21,H⟩:=zO H
   try dsimp only at H
   obtain rfl:=zi H
   obtain ⟨hcz22_0,hcz22_1,hcz22_2,hfz22_0,hfz22_1,hfz22_2⟩:=blk3 BK1.out
   rotate_left
   rw [if_neg c20] at H
   have c20b0:=zbn c20
   have c20b1:=zqt c20
   obtain rfl:=zi H
   obtain ⟨hcz23_0,hcz23_1,hcz23_2,hfz23_0,hfz23_1,hfz23_2⟩:=blk3 BK1.out
   rotate_left
   replace c19:=Bool.eq_false_iff.mpr c19
   subst c19
   rw [if_neg zff] at H
   try dsimp only at H
   obtain rfl:=zi H
   obtain ⟨hcz24_0,hcz24_1,hcz24_2,hfz24_0,hfz24_1,hfz24_2⟩:=blk3 BK1.out
   rotate_left
   all_goals
    go_wp2_with (first|(go_at_call 100;(with_reducible refine (ih k1 za43 ((rd_T54 l0_2 x3_1).f0) ((rd_T54 l0_2 x3_1).f1) _ _ ((rd_T54 l0_2 x3_1).f2) false _ ?side1 ?side2 A5.out).mono ?_);(case side1=>repeat ((exact (Kd.C_below HR100002_2.out HB.out))));(case side2=>exact HC100002_2.out);rintro e w10 ⟨rfl,hb⟩;replace BK1:=yb BK1 hb;replace HB:=yB HB hb;(try clear hb))|(go_at_call 77;(with_reducible refine (spec_l1In.calls a0_0 1 9 _ _ A18.out).mono ?_);rintro e w' ⟨rfl,⟨nd,rfl⟩⟩;(try (exact ⟨rfl,_,World.drewN_drewN _ _ _⟩)))|(go_at_call 107;(with_reducible refine (spec_l3Args.calls k1 a0_0 t6 _ A21.out).mono ?_);rintro e w' ⟨rfl,⟨nd,rfl⟩⟩;(try (exact ⟨rfl,_,World.drewN_drewN _ _ _⟩)))|(go_at_call 65;(with_reducible refine (spec_IsWord.calls k1 a0_1 _ _ A13.out).mono ?_);rintro e w' ⟨rfl,⟨nd,rfl⟩⟩;(try (exact ⟨rfl,_,World.drewN_drewN _ _ _⟩))))
    repeat (go_quiet (first|(go_at_call 100;(with_reducible refine (ih k1 za43 ((rd_T54 l0_2 x3_1).f0) ((rd_T54 l0_2 x3_1).f1) _ _ ((rd_T54 l0_2 x3_1).f2) false _ ?side1 ?side2 A5.out).mono ?_);(case side1=>repeat ((exact (Kd.C_below HR100002_2.out HB.out))));(case side2=>exact HC100002_2.out);rintro e w10 ⟨rfl,hb⟩;replace BK1:=yb BK1 hb;replace HB:=yB HB hb;(try clear hb))|(go_at_call 77;(with_reducible refine (spec_l1In.calls a0_0 1 9 _ _ A18.out).mono ?_);rintro e w' ⟨rfl,⟨nd,rfl⟩⟩;(try (exact ⟨rfl,_,World.drewN_drewN _ _ _⟩)))|(go_at_call 107;(with_reducible refine (spec_l3Args.calls k1 a0_0 t6 _ A21.out).mono ?_);rintro e w' ⟨rfl,⟨nd,rfl⟩⟩;(try (exact ⟨rfl,_,World.drewN_drewN _ _ _⟩)))|(go_at_call 65;(with_reducible refine (spec_IsWord.calls k1 a0_1 _ _ A13.out).mono ?_);rintro e w' ⟨rfl,⟨nd,rfl⟩⟩;(try (exact ⟨rfl,_,World.drewN_drewN _ _ _⟩))));try go_wp2_with (first|(go_at_call 100;(with_reducible refine (ih k1 za43 ((rd_T54 l0_2 x3_1).f0) ((rd_T54 l0_2 x3_1).f1) _ _ ((rd_T54 l0_2 x3_1).f2) false _ ?side1 ?side2 A5.out).mono ?_);(case side1=>repeat ((exact (Kd.C_below HR100002_2.out HB.out))));(case side2=>exact HC100002_2.out);rintro e w10 ⟨rfl,hb⟩;replace BK1:=yb BK1 hb;replace HB:=yB HB hb;(try clear hb))|(go_at_call 77;(with_reducible refine (spec_l1In.calls a0_0 1 9 _ _ A18.out).mono ?_);rintro e w' ⟨rfl,⟨nd,rfl⟩⟩;(try (exact ⟨rfl,_,World.drewN_drewN _ _ _⟩)))|(go_at_call 107;(with_reducible refine (spec_l3Args.calls k1 a0_0 t6 _ A21.out).mono ?_);rintro e w' ⟨rfl,⟨nd,rfl⟩⟩;(try (exact ⟨rfl,_,World.drewN_drewN _ _ _⟩)))|(go_at_call 65;(with_reducible refine (spec_IsWord.calls k1 a0_1 _ _ A13.out).mono ?_);rintro e w' ⟨rfl,⟨nd,rfl⟩⟩;(try (exact ⟨rfl,_,World.drewN_drewN _ _ _⟩)))))
    go_ret
    exact ⟨by (rfl),za8⟩
def spec_IsValidRegex.f (k:Nat) (a0_0:Int) (a0_1:ByteArray) (l0_2:List (S54)):Option (Bool):=(spec_l3Left.f k a0_0 a0_1 l0_2 16).bind fun t75002=>(if t75002 ≥ 0 then ((spec_l3Depth.f k a0_0 a0_1 l0_2).bind fun t75003=>(if t75003≤6 then ((spec_l3All.f k a0_0 a0_1 l0_2).bind fun t75004=>(some t75004)) else (some false))) else (some false))
theorem spec_IsValidRegex.calls (k:Nat) (a0_0:Int) (a0_1:ByteArray) (A0_2:Option Addr) (c0_2:Nat) (l0_2:List (S54)) (r:Bool) (w:World) (hr0_2:Kd.C k54 w A0_2 l0_2.length l0_2) (hc0_2:l0_2.length≤c0_2) (h:spec_IsValidRegex.f k a0_0 a0_1 l0_2=some r) :
   Calls Tryz.prog 75 #[.agg #[.int .i64 a0_0,.string a0_1,.slice A0_2 l0_2.length c0_2]] w fun e w'=>e = .returned (.bool r)∧Below w.heap.size w w':=by
 have hu54:=Tryz.underlying54
 have HR0_2:=zk hr0_2
 have HC0_2:=zk hc0_2
 clear hr0_2 hc0_2
 have HB:=zk (Below.refl w.heap.size w)
 have H:=h
 unfold spec_IsValidRegex.f at H
 clear h
 obtain ⟨t2,A2,H⟩:=zO H
 try dsimp only at H
 by_cases c3:t2 ≥ 0
 rw [if_pos c3] at H
 have c3b0:=zdle c3
 clear c3
 obtain ⟨t3,A4,H⟩:=zO H
 try dsimp only at H
 by_cases c5:t3≤6
 rw [if_pos c5] at H
 have c5b0:=zdle c5
 clear c5
 obtain ⟨t4,A6,H⟩:=zO H
 try dsimp only at H
 rotate_left
 rw [if_neg c5] at H
 have c5b0:=zdnle c5
 clear c5
 rotate_left
 rw [if_neg c3] at H
 have c3b0:=zdnle c3
 clear c3
 rotate_left
 all_goals
  obtain rfl:=zi H
  go_enter Tryz.func75,Tryz.ntmps75
  go_wp2_with (first|((with_reducible refine gate_dst (N:=1) rfl ?_);refine zE (cs:=#[.int .i64 a0_0,.string a0_1,.slice A0_2 l0_2.length c0_2]) (t:=54) ?_;intro gb1 hg w14 hbox hb;have BK1:=zk hbox;have GW1:=zk (zs (w:=w) hg za8);have GE1:=GW1;replace HB:=yB HB hb;clear hb hbox hg;obtain ⟨hcz15_0,hcz15_1,hcz15_2,hfz15_0,hfz15_1,hfz15_2⟩:=blk3 BK1.out)|((with_reducible refine gate_callee (f:=98) rfl ?_);refine zg (some 4) Tryz.func98 #[.agg #[.int .i64 a0_0,.string a0_1,.slice A0_2 l0_2.length c0_2],.int .i64 16] rfl za11 ?_;(with_reducible refine (spec_l3Left.calls k a0_0 a0_1 _ _ l0_2 16 t2 _ ?side1 ?side2 A2.out).mono ?_);(case side1=>repeat ((exact (Kd.C_below HR0_2.out HB.out))));(case side2=>exact HC0_2.out);rintro e w16 ⟨rfl,hb⟩;refine ⟨_,rfl,?_⟩;replace BK1:=yb BK1 hb;replace HB:=yB HB hb;(try clear hb);obtain ⟨hcz17_0,hcz17_1,hcz17_2,hfz17_0,hfz17_1,hfz17_2⟩:=blk3 BK1.out)|(go_at_call 99;(with_reducible refine (spec_l3Depth.calls k a0_0 a0_1 _ _ l0_2 t3 _ ?side1 ?side2 A4.out).mono ?_);(case side1=>repeat ((exact (Kd.C_below HR0_2.out HB.out))));(case side2=>exact HC0_2.out);rintro e w11 ⟨rfl,hb⟩;replace BK1:=yb BK1 hb;replace HB:=yB HB hb;(try clear hb);obtain ⟨hcz12_0,hcz12_1,hcz12_2,hfz12_0,hfz12_1,hfz12_2⟩:=blk3 BK1.out)|(go_at_call 100;(with_reducible refine (spec_l3All.calls k a0_0 a0_1 _ _ l0_2 t4 _ ?side1 ?side2 A6.out).mono ?_);(case side1=>repeat ((exact (Kd.C_below HR0_2.out HB.out))));(case side2=>exact HC0_2.out);rintro e w13 ⟨rfl,hb⟩;replace BK1:=yb BK1 hb;replace HB:=yB HB hb;(try clear hb)))
  go_ret
  exact ⟨by (rfl),za8⟩
end Go.Proofs.YtcbjhfoeecfcoaaGreat.A
namespace Go.Proofs.YtcbjhfoeecfcoaaGreat.Ext
open Go.RowKit YtcbjhfoeecfcoaaGreatW.PrintWords YtcbjhfoeecfcoaaGreatW.PrintLast YtcbjhfoeecfcoaaGreat.A
inductive Rx where
 | none:Rx
 | empty:Rx
 | letter (l:ByteArray):Rx
 | any:Rx
 | cat (a b:Rx):Rx
 | or (a b:Rx):Rx
 | and (a b:Rx):Rx
 | star (a:Rx):Rx
 | not (a:Rx):Rx
def Rx.size:Rx→Nat
 | .cat a b=>1+a.size+b.size
 | .or a b=>1+a.size+b.size
 | .and a b=>1+a.size+b.size
 | .star a=>1+a.size
 | .not a=>1+a.size
 | _=>1
theorem Rx.size_pos (t:Rx):0 < t.size:=by cases t <;> simp only [Rx.size] <;> omega
inductive IsRx : S54 → Rx → Prop
 | none (s:ByteArray):IsRx ⟨1,s,[]⟩ .none
 | empty (s:ByteArray):IsRx ⟨2,s,[]⟩ .empty
 | letter (s:ByteArray):IsRx ⟨3,s,[]⟩ (.letter s)
 | any (s:ByteArray):IsRx ⟨4,s,[]⟩ .any
 | cat (s:ByteArray) {x y:S54} {t u:Rx} (hx:IsRx x t) (hy:IsRx y u):IsRx ⟨5,s,[x,y]⟩ (.cat t u)
 | or (s:ByteArray) {x y:S54} {t u:Rx} (hx:IsRx x t) (hy:IsRx y u):IsRx ⟨6,s,[x,y]⟩ (.or t u)
 | and (s:ByteArray) {x y:S54} {t u:Rx} (hx:IsRx x t) (hy:IsRx y u):IsRx ⟨7,s,[x,y]⟩ (.and t u)
 | star (s:ByteArray) {x:S54} {t:Rx} (hx:IsRx x t):IsRx ⟨8,s,[x]⟩ (.star t)
 | not (s:ByteArray) {x:S54} {t:Rx} (hx:IsRx x t):IsRx ⟨9,s,[x]⟩ (.not t)
def rxOf:Nat→S54→Option Rx
 | 0,_ => .none
 | n+1,x=>match x.f2 with
  | []=>if x.f0=1 then some .none else if x.f0=2 then some .empty else if x.f0=3 then some (.letter x.f1) else if x.f0=4 then some .any else .none
  | [a]=>(rxOf n a).bind fun t=>if x.f0=8 then some (.star t) else if x.f0=9 then some (.not t) else .none
  | [a,b]=>(rxOf n a).bind fun t=>(rxOf n b).bind fun u=>if x.f0=5 then some (.cat t u) else if x.f0=6 then some (.or t u) else if x.f0=7 then some (.and t u) else .none
  | _ => .none
theorem rxOf_is:∀ n (x:S54) (t:Rx),rxOf n x=some t→IsRx x t:=by
 intro n
 induction n with
 | zero=>intro x t h;exact absurd h (by simp [rxOf])
 | succ n ih =>
  intro x t h
  obtain ⟨k,s,l⟩:=x
  rcases l with _|⟨a,_|⟨b,_|⟨c,l⟩⟩⟩
  ·simp only [rxOf] at h
   split at h
   ·next e=>subst e;obtain rfl:=zi h;exact .none s
   ·split at h
    ·next e=>subst e;obtain rfl:=zi h;exact .empty s
    ·split at h
     ·next e=>subst e;obtain rfl:=zi h;exact .letter s
     ·split at h
      ·next e=>subst e;obtain rfl:=zi h;exact .any s
      ·exact absurd h (by simp)
  ·simp only [rxOf] at h
   replace h:=zo h
   obtain ⟨u,hu,h⟩:=h
   split at h
   ·next e=>subst e;obtain rfl:=zi h;exact .star s (ih _ _ hu)
   ·split at h
    ·next e=>subst e;obtain rfl:=zi h;exact .not s (ih _ _ hu)
    ·exact absurd h (by simp)
  ·simp only [rxOf] at h
   replace h:=zo h
   obtain ⟨u,hu,h⟩:=h
   replace h:=zo h
   obtain ⟨v,hv,h⟩:=h
   split at h
   ·next e=>subst e;obtain rfl:=zi h;exact .cat s (ih _ _ hu) (ih _ _ hv)
   ·split at h
    ·next e=>subst e;obtain rfl:=zi h;exact .or s (ih _ _ hu) (ih _ _ hv)
    ·split at h
     ·next e=>subst e;obtain rfl:=zi h;exact .and s (ih _ _ hu) (ih _ _ hv)
     ·exact absurd h (by simp)
  ·exact absurd h (by simp [rxOf])
/-! The language. -/
def exIn (p:Nat→Bool) (i j:Nat):Bool:=(List.range (j+1 - i)).any fun d=>p (i+d)
theorem exIn_iff (p:Nat→Bool) (i j:Nat):exIn p i j=true ↔ ∃ k,i≤k∧k≤j∧p k=true:=by
 unfold exIn
 rw [List.any_eq_true]
 constructor
 ·rintro ⟨d,hd,h⟩
  have:=List.mem_range.1 hd
  exact ⟨i+d,by omega,by omega,h⟩
 ·rintro ⟨k,h1,h2,h⟩
  exact ⟨k - i,List.mem_range.2 (by omega),by rw [show i+(k - i)=k by omega];exact h⟩
def stf (f:Nat→Nat→Bool):Nat→Nat→Nat→Bool
 | 0,i,j=>i == j
 | n+1,i,j=>i == j || exIn (fun k=>f i k && stf f n k j) (i+1) j
def mt (s:ByteArray):Rx→Nat→Nat→Bool
 | .none,_,_=>false
 | .empty,i,j=>i == j
 | .letter l,i,j=>(s.extract i j).toList == l.toList
 | .any,i,j=>j == i+1
 | .cat a b,i,j=>exIn (fun k=>mt s a i k && mt s b k j) i j
 | .or a b,i,j=>mt s a i j || mt s b i j
 | .and a b,i,j=>mt s a i j && mt s b i j
 | .star a,i,j=>stf (mt s a) (j - i) i j
 | .not a,i,j => !mt s a i j
inductive Path (f : Nat → Nat → Bool) : Nat → Nat → Prop
 | refl (i:Nat):Path f i i
 | step {i k j:Nat} (h:i < k) (hf:f i k=true) (r:Path f k j):Path f i j
theorem Path.le {f:Nat→Nat→Bool} {i j:Nat} (h:Path f i j):i≤j:=by
 induction h with
 | refl=>exact Nat.le_refl _
 | step h _ _ ih=>omega
theorem Path.snoc {f:Nat→Nat→Bool} {i j k:Nat} (h:Path f i j) (hk:j < k) (hf:f j k=true):Path f i k:=by
 induction h with
 | refl i=>exact .step hk hf (.refl _)
 | step h g _ ih=>exact .step h g (ih hk hf)
theorem Path.last {f:Nat→Nat→Bool} {i k:Nat} (h:Path f i k):k=i∨∃ m,i≤m∧m < k∧Path f i m∧f m k=true:=by
 induction h with
 | refl i=>exact .inl rfl
 | @step i k j h g r ih =>
  right
  rcases ih with rfl|⟨m,h1,h2,h3,h4⟩
  ·exact ⟨i,Nat.le_refl _,h,.refl _,g⟩
  ·exact ⟨m,by omega,h2,.step h g h3,h4⟩
theorem stf_iff (f:Nat→Nat→Bool):∀ n i j,j - i≤n→(stf f n i j=true ↔ Path f i j):=by
 intro n
 induction n with
 | zero =>
  intro i j h
  simp only [stf,beq_iff_eq]
  constructor
  ·rintro rfl;exact .refl _
  ·intro p;have:=p.le;omega
 | succ n ih =>
  intro i j h
  simp only [stf,Bool.or_eq_true,beq_iff_eq,exIn_iff,Bool.and_eq_true]
  constructor
  ·rintro (rfl|⟨k,h1,h2,h3,h4⟩)
   ·exact .refl _
   ·exact .step (by omega) h3 ((ih k j (by omega)).1 h4)
  ·intro p
   cases p with
   | refl=>exact .inl rfl
   | @step _ k _ h1 h2 r=>exact .inr ⟨k,by omega,r.le,h2,(ih k j (by omega)).2 r⟩
theorem star_iff (s:ByteArray) (a:Rx) (i j:Nat):mt s (.star a) i j=true ↔ Path (mt s a) i j:=stf_iff _ _ _ _ (Nat.le_refl _)
theorem star_self (s:ByteArray) (a:Rx) (i:Nat):mt s (.star a) i i=true:=(star_iff s a i i).2 (.refl _)
theorem star_first (s:ByteArray) (a:Rx) (i j:Nat) (h:i < j):mt s (.star a) i j=exIn (fun k=>mt s a i k && mt s (.star a) k j) (i+1) j:=by
 rw [Bool.eq_iff_iff,star_iff,exIn_iff]
 constructor
 ·intro p
  cases p with
  | refl=>omega
  | @step _ k _ h1 h2 r=>exact ⟨k,by omega,r.le,by simp [h2,(star_iff s a k j).2 r]⟩
 ·rintro ⟨k,h1,h2,h3⟩
  simp only [Bool.and_eq_true] at h3
  exact .step (by omega) h3.1 ((star_iff s a k j).1 h3.2)
theorem star_last (s:ByteArray) (a:Rx) (i k:Nat) (h:i < k):mt s (.star a) i k=exIn (fun m=>mt s (.star a) i m && mt s a m k) i (k - 1):=by
 rw [Bool.eq_iff_iff,star_iff,exIn_iff]
 constructor
 ·intro p
  rcases p.last with rfl|⟨m,h1,h2,h3,h4⟩
  ·omega
  ·exact ⟨m,h1,by omega,by simp [h4,(star_iff s a i m).2 h3]⟩
 ·rintro ⟨m,h1,h2,h3⟩
  simp only [Bool.and_eq_true] at h3
  exact ((star_iff s a i m).1 h3.1).snoc (by omega) h3.2
def rxMatch (k:Int) (b:ByteArray) (l:List S54) (s:ByteArray):Option Bool :=
 if s.size≤400 then (rxOf 7 ⟨k,b,l⟩).bind fun t=>if t.size≤16 then some (mt s t 0 s.size) else .none else .none
theorem rxMatch_some {k:Int} {b:ByteArray} {l:List S54} {s:ByteArray} {r:Bool} (h:rxMatch k b l s=some r):∃ t,IsRx ⟨k,b,l⟩ t∧t.size≤16∧s.size≤400∧mt s t 0 s.size=r:=by
 unfold rxMatch at h
 split at h
 ·next h0 =>
  obtain ⟨t,h1,h2⟩:=zo h
  split at h2
  ·next h3=>exact ⟨t,rxOf_is _ _ _ h1,h3,h0,zi h2⟩
  ·exact absurd h2 (by simp)
 ·exact absurd h (by simp)
end Go.Proofs.YtcbjhfoeecfcoaaGreat.Ext
namespace Go.Proofs.YtcbjhfoeecfcoaaGreat.Ext
open Go Go.RowKit YtcbjhfoeecfcoaaGreatW.PrintWords YtcbjhfoeecfcoaaGreatW.PrintLast
structure Lay where
 N:Nat
 bn:Nat
 ba:Nat
 bm:Nat
 cn:Nat
 ca:Nat
 cm:Nat
 kd:Nat→Int
 lt:Nat→ByteArray
 ar:Nat→List Int
 aA:Nat→Option Addr
 ac:Nat→Nat
 tb:Nat→Nat
 tc:Nat→Nat
 rb:Nat→Nat→Nat
def Lay.St (l:Lay) (W1:World) (L k:Nat):Prop:=k < W1.heap.size∧∀ q i,q < l.N→i < L→k ≠ l.rb q i
structure LayOk (l : Lay) (w0 W1 : World) (g : Nat) (s : ByteArray) (L : Nat) : Prop where
 z:W1.heap[g]? = some (.cells #[.string s,.slice (some ⟨l.bn,0,none⟩) l.N l.cn,.slice (some ⟨l.ba,0,none⟩) l.N l.ca,.slice (some ⟨l.bm,0,none⟩) l.N l.cm] 111 (0,0))
 n0:∀ q,q < l.N→W1.cell? ⟨l.bn,q * 3,none⟩=some (.int .i64 (l.kd q))
 n1:∀ q,q < l.N→W1.cell? ⟨l.bn,q * 3+1,none⟩=some (.string (l.lt q))
 a0:∀ q,q < l.N→W1.cell? ⟨l.ba,q,none⟩=some (.slice (l.aA q) (l.ar q).length (l.ac q))
 a1:∀ q,q < l.N→∀ p,p < (l.ar q).length→∃ ab,l.aA q=some ⟨ab,0,none⟩∧l.St W1 L ab∧W1.cell? ⟨ab,p,none⟩=some (.int .i64 ((l.ar q).getD p 0))
 m0:∀ q,q < l.N→W1.cell? ⟨l.bm,q,none⟩=some (.slice (some ⟨l.tb q,0,none⟩) L (l.tc q))
 m1:∀ q i,q < l.N→i < L→W1.cell? ⟨l.tb q,i,none⟩=some (.slice (some ⟨l.rb q i,0,none⟩) L L)
 sg:l.St W1 L g
 sn:l.St W1 L l.bn
 sa:l.St W1 L l.ba
 sm:l.St W1 L l.bm
 st:∀ q,q < l.N→l.St W1 L (l.tb q)
 inj:∀ q i q' i',q < l.N→i < L→q' < l.N→i' < L→l.rb q i=l.rb q' i'→q=q'∧i=i'
 lo:∀ q i,q < l.N→i < L→w0.heap.size≤l.rb q i
def upd (m:Nat→Nat→List Int) (q i:Nat) (r:List Int):Nat→Nat→List Int:=fun q' i'=>if q'=q∧i'=i then r else m q' i'
theorem upd_self (m:Nat→Nat→List Int) (q i:Nat) (r:List Int):upd m q i r q i=r:=if_pos ⟨rfl,rfl⟩
theorem upd_ne (m:Nat→Nat→List Int) {q i q' i':Nat} (r:List Int) (h:¬ (q'=q∧i'=i)):upd m q i r q' i'=m q' i':=if_neg h
structure SSt (l : Lay) (W1 : World) (L : Nat) (m : Nat → Nat → List Int) (W : World) : Prop where
 st:∀ k,l.St W1 L k→W.heap[k]? = W1.heap[k]?
 rw:∀ q i,q < l.N→i < L→W.heap[l.rb q i]? = some (.cells (nums .i64 (m q i)).toArray 3 (0,0))∧(m q i).length=L
 le:W1.heap.size≤W.heap.size
section
variable {l : Lay} {w0 W1 W : World} {g : Nat} {s : ByteArray} {L : Nat} {m : Nat → Nat → List Int}
theorem SSt.cell_ (h:SSt l W1 L m W) {a:Addr} {v:Value} (hs:l.St W1 L a.block) (hc:W1.cell? a=some v):W.cell? a=some v:=(World.cell?_of_block (w:=W1) (h.st _ hs)).trans hc
theorem SSt.z (h:SSt l W1 L m W) (ok:LayOk l w0 W1 g s L):W.heap[g]? = some (.cells #[.string s,.slice (some ⟨l.bn,0,none⟩) l.N l.cn,.slice (some ⟨l.ba,0,none⟩) l.N l.ca,.slice (some ⟨l.bm,0,none⟩) l.N l.cm] 111 (0,0)):=(h.st _ ok.sg).trans ok.z
theorem SSt.n0 (h:SSt l W1 L m W) (ok:LayOk l w0 W1 g s L) {q:Nat} (hq:q < l.N):W.cell? ⟨l.bn,q * 3,none⟩=some (.int .i64 (l.kd q)):=h.cell_ ok.sn (ok.n0 q hq)
theorem SSt.n1 (h:SSt l W1 L m W) (ok:LayOk l w0 W1 g s L) {q:Nat} (hq:q < l.N):W.cell? ⟨l.bn,q * 3+1,none⟩=some (.string (l.lt q)):=h.cell_ ok.sn (ok.n1 q hq)
theorem SSt.a0 (h:SSt l W1 L m W) (ok:LayOk l w0 W1 g s L) {q:Nat} (hq:q < l.N):W.cell? ⟨l.ba,q,none⟩=some (.slice (l.aA q) (l.ar q).length (l.ac q)):=h.cell_ ok.sa (ok.a0 q hq)
theorem SSt.m0 (h:SSt l W1 L m W) (ok:LayOk l w0 W1 g s L) {q:Nat} (hq:q < l.N):W.cell? ⟨l.bm,q,none⟩=some (.slice (some ⟨l.tb q,0,none⟩) L (l.tc q)):=h.cell_ ok.sm (ok.m0 q hq)
theorem SSt.m1 (h:SSt l W1 L m W) (ok:LayOk l w0 W1 g s L) {q i:Nat} (hq:q < l.N) (hi:i < L):W.cell? ⟨l.tb q,i,none⟩=some (.slice (some ⟨l.rb q i,0,none⟩) L L):=h.cell_ (ok.st q hq) (ok.m1 q i hq hi)
theorem SSt.m2 (h:SSt l W1 L m W) {q i j:Nat} (hq:q < l.N) (hi:i < L) (hj:j < L):W.cell? ⟨l.rb q i,j,none⟩=some (.int .i64 ((m q i).getD j 0)):=by
 obtain ⟨h1,h2⟩:=h.rw q i hq hi
 rw [blk_cell h1]
 simp [nums,h2,hj]
theorem SSt.fr (h:SSt l W1 L m W) {q i:Nat} (hq:q < l.N) (hi:i < L) (j:Nat):W.frozen? ⟨l.rb q i,j,none⟩=false:=blk_frozen (h.rw q i hq hi).1 j
theorem SSt.below {W':World} (h:SSt l W1 L m W) (hb:Below W.heap.size W W'):SSt l W1 L m W' :=
 ⟨fun k hk=>(hb.block k (Nat.lt_of_lt_of_le hk.1 h.le)).trans (h.st k hk),fun q i hq hi=>⟨blk_below (h.rw q i hq hi).1 hb,(h.rw q i hq hi).2⟩,Nat.le_trans h.le hb.size⟩
theorem SSt.put (h:SSt l W1 L m W) (ok:LayOk l w0 W1 g s L) {q i:Nat} (hq:q < l.N) (hi:i < L) (j:Nat) (v:Int):SSt l W1 L (upd m q i ((m q i).set j v)) (W.setCell ⟨l.rb q i,j,none⟩ (.int .i64 v)):=by
 refine ⟨fun k hk=>?_,fun q' i' hq' hi' => ?_,by simpa using h.le⟩
 ·exact (Below.heap_setCell W _ _ k (hk.2 q i hq hi)).trans (h.st k hk)
 ·by_cases e:q'=q∧i'=i
  ·obtain ⟨rfl,rfl⟩:=e
   rw [upd_self]
   refine ⟨blk_put (h.rw _ _ hq hi).1 j _ ?_,by rw [List.length_set];exact (h.rw _ _ hq hi).2⟩
   simp [nums,List.map_set]
  ·rw [upd_ne _ _ e]
   refine ⟨blk_far (h.rw q' i' hq' hi').1 (fun hr=>e ?_) _,(h.rw q' i' hq' hi').2⟩
   exact ok.inj q' i' q i hq' hi' hq hi hr
end
def Gs (L:Nat) (T:Nat→Nat→Nat→Bool) (m:Nat→Nat→List Int) (lo hi:Nat):Prop :=
 ∀ q i j,lo≤q→q < hi→i≤j→j < L→(m q i).getD j 0=0∨(m q i).getD j 0=if T q i j=true then 1 else 2
def Ss (L:Nat) (m m':Nat→Nat→List Int) (lo hi:Nat):Prop :=
 ∀ q i j,¬ (lo≤q∧q < hi)→i≤j→j < L→(m' q i).getD j 0=(m q i).getD j 0
theorem Ss.refl (L:Nat) (m:Nat→Nat→List Int) (lo hi:Nat):Ss L m m lo hi:=fun _ _ _ _ _ _=>rfl
theorem Ss.next {L:Nat} {m m' m2:Nat→Nat→List Int} {lo hi lo' hi':Nat} (h:Ss L m m' lo hi) (h':Ss L m' m2 lo' hi') (h1:lo≤lo') (h2:hi'≤hi):Ss L m m2 lo hi :=
 fun q i j hq h3 h4=>(h' q i j (by omega) h3 h4).trans (h q i j hq h3 h4)
theorem Gs.sub {L:Nat} {T:Nat→Nat→Nat→Bool} {m:Nat→Nat→List Int} {lo hi lo' hi':Nat} (h:Gs L T m lo hi) (h1:lo≤lo') (h2:hi'≤hi):Gs L T m lo' hi' :=
 fun q i j h3 h4=>h q i j (by omega) (by omega)
theorem Gs.next {L:Nat} {T:Nat→Nat→Nat→Bool} {m m':Nat→Nat→List Int} {lo hi lo' hi':Nat} (h:Gs L T m lo hi) (h':Gs L T m' lo' hi') (hs:Ss L m m' lo' hi'):Gs L T m' lo hi:=by
 intro q i j h1 h2 h3 h4
 by_cases h5:lo'≤q∧q < hi'
 ·exact h' q i j h5.1 h5.2 h3 h4
 ·rw [hs q i j h5 h3 h4];exact h q i j h1 h2 h3 h4
def SPost (l:Lay) (w0 W1:World) (L:Nat) (T:Nat→Nat→Nat→Bool) (m:Nat→Nat→List Int) (lo hi:Nat) (r:Value) (e:Ending) (W':World):Prop :=
 e = .returned r∧∃ m',SSt l W1 L m' W'∧Gs L T m' lo hi∧Ss L m m' lo hi∧Below w0.heap.size w0 W'
theorem bit_calls (a0:Bool) (w:World):Calls Tryz.prog 89 #[.bool a0] w fun e w'=>e = .returned (.int .i64 (if a0=true then 1 else 0))∧∃ nd,w'=w.drewN nd:=by
 cases a0
 all_goals
  go_enter Tryz.func89,Tryz.ntmps89
  go_wp2
  go_ret
  exact ⟨za93,by first|exact ⟨0,rfl⟩|exact ⟨1,rfl⟩|exact ⟨2,rfl⟩⟩
theorem getD_lt {r:List Int} {j:Nat} {v:Int} (h:j < r.length):(r.set j v).getD j 0=v:=by
 rw [List.getD_eq_getElem?_getD,List.getElem?_set_self h];rfl
theorem getD_ne {r:List Int} {i j:Nat} (v:Int) (h:i ≠ j):(r.set i v).getD j 0=r.getD j 0:=by
 rw [List.getD_eq_getElem?_getD,List.getD_eq_getElem?_getD,List.getElem?_set_ne h]
section
variable (l : Lay) (w0 W1 : World) (g : Nat) (s : ByteArray) (L : Nat) (ok : LayOk l w0 W1 g s L) (T : Nat → Nat → Nat → Bool) (lo q i j : Nat) (hlo : lo ≤ q) (hq : q < l.N) (hij : i ≤ j) (hj : j < L) (r : Bool) (hT : T q i j = r)
 (m:Nat→Nat→List Int) (W:World) (hS:SSt l W1 L m W) (hB:Below w0.heap.size w0 W)
include ok hlo hq hij hj hT hS hB
set_option maxHeartbeats 4000000 in
theorem is_known (hG:Gs L T m lo (q+1)) (hv:(m q i).getD j 0 ≠ 0) :
  Calls Tryz.prog 104 #[.pointer (some ⟨g,0,none⟩),.int .i64 (q:Int),.int .i64 (i:Int),.int .i64 (j:Int)] W (SPost l w0 W1 L T m lo (q+1) (.bool r)):=by
 have hr:(m q i).getD j 0=if r=true then 1 else 2:=by
  rcases hG q i j hlo (by omega) hij hj with h|h
  ·exact absurd h hv
  ·rw [h,hT]
 have HS:=zk hS
 have HB:=zk hB
 have HG:=zk hG
 obtain ⟨z0,z1,z2,z3,f0,f1,f2,f3⟩:=blk4 (hS.z ok)
 have c0:=hS.m0 ok hq
 have c1:=hS.m1 ok hq (show i < L by omega)
 have c2:=hS.m2 hq (show i < L by omega) hj
 have q1:=eq_true hq
 have q2:=eq_true (show i < L by omega)
 have q3:=eq_true hj
 rw [hr] at c2
 clear hS hB hG hv hr hq hj hT
 cases r
 all_goals
  simp only [if_true,Bool.false_eq_true,if_false] at c2
  go_enter Tryz.func104,Tryz.ntmps104
  go_wp2
  go_ret
  exact ⟨rfl,m,HS.out,HG.out,Ss.refl _ _ _ _,HB.out⟩
set_option maxHeartbeats 4000000 in
theorem is_find (hk:(l.kd q == 8)=false) (hG:Gs L T m lo (q+1)) (hv:(m q i).getD j 0=0)
  (hf:∀ (m:Nat→Nat→List Int) (W:World),SSt l W1 L m W→Gs L T m lo q→Below w0.heap.size w0 W→Calls Tryz.prog 109 #[.pointer (some ⟨g,0,none⟩),.int .i64 (q:Int),.int .i64 (i:Int),.int .i64 (j:Int)] W (SPost l w0 W1 L T m lo q (.bool r))) :
  Calls Tryz.prog 104 #[.pointer (some ⟨g,0,none⟩),.int .i64 (q:Int),.int .i64 (i:Int),.int .i64 (j:Int)] W (SPost l w0 W1 L T m lo (q+1) (.bool r)):=by
 have hi:i < L:=by omega
 have HS:=zk hS
 have HB:=zk hB
 have HG:=zk hG
 have HF:=zk (hf m W hS (hG.sub (Nat.le_refl _) (Nat.le_succ _)) hB)
 have HF0:=zk (fun (W':World) (hS':SSt l W1 L m W') (hB':Below w0.heap.size w0 W')=>hf m W' hS' (hG.sub (Nat.le_refl _) (Nat.le_succ _)) hB')
 have HBit:=zk (fun (W':World)=>bit_calls r W')
 have HE:Aside0 (∀ (m5:Nat→Nat→List Int),(m5 q i).length=L→Gs L T m5 lo q→Ss L m m5 lo q→Gs L T (upd m5 q i ((m5 q i).set j (if r=true then 1 else 2))) lo (q+1)∧Ss L m (upd m5 q i ((m5 q i).set j (if r=true then 1 else 2))) lo (q+1)):=⟨by
  intro m5 h5 hG5 hS5
  refine ⟨fun q' i' j' h1 h2 h3 h4=>?_,fun q' i' j' h1 h3 h4=>?_⟩
  ·by_cases e:q'=q∧i'=i
   ·obtain ⟨rfl,rfl⟩:=e
    rw [upd_self]
    by_cases e2:j=j'
    ·subst e2
     rw [getD_lt (by omega),hT]
     exact .inr rfl
    ·rw [getD_ne _ e2,hS5 q' i' j' (by omega) h3 h4]
     exact hG q' i' j' h1 h2 h3 h4
   ·rw [upd_ne _ _ e]
    by_cases e2:q' < q
    ·exact hG5 q' i' j' h1 e2 h3 h4
    ·rw [hS5 q' i' j' (by omega) h3 h4]
     exact hG q' i' j' h1 h2 h3 h4
  ·rw [upd_ne _ _ (fun e=>h1 (by omega))]
   exact hS5 q' i' j' (by omega) h3 h4⟩
 obtain ⟨z0,z1,z2,z3,f0,f1,f2,f3⟩:=blk4 (hS.z ok)
 have c0:=hS.m0 ok hq
 have c1:=hS.m1 ok hq hi
 have c2:=hS.m2 hq hi hj
 have n0:=hS.n0 ok hq
 have q1:=eq_true hq
 have q2:=eq_true hi
 have q3:=eq_true hj
 have Hq:=zk hq
 have Hi:=zk hi
 have Hj:=zk hj
 rw [hv] at c2
 clear hS hB hG hv hq hj hT hf hi
 have e0:=ok.sg.2 q i Hq.out Hi.out
 have e1:=ok.sm.2 q i Hq.out Hi.out
 have e2:=(ok.st q Hq.out).2 q i Hq.out Hi.out
 have ST:∀ W':World,SSt l W1 L m W'→SSt l W1 L m W'.drew:=fun _ h=>⟨h.st,h.rw,h.le⟩
 have HST:=zk ST
 clear ST
 cases r
 ·simp only [if_true,Bool.false_eq_true,if_false] at HBit HE
  go_enter Tryz.func104,Tryz.ntmps104
  go_upto_region 4 with (fail)
  go_cut [] (fun wc=>∃ m5,Aside0 (SSt l W1 L m5 wc)∧Aside0 (Gs L T m5 lo (q+1))∧Aside0 (Ss L m m5 lo (q+1))∧Aside0 ((m5 q i).getD j 0=2)∧Aside0 (Below w0.heap.size w0 wc))
  case first =>
   clear n0 c2
   go_region_held3 (fun w'=>w'.cell? ⟨g,3,none⟩=some (.slice (some ⟨l.bm,0,none⟩) l.N l.cm)∧w'.cell? ⟨l.bm,q,none⟩=some (.slice (some ⟨l.tb q,0,none⟩) L (l.tc q))∧w'.cell? ⟨l.tb q,i,none⟩=some (.slice (some ⟨l.rb q i,0,none⟩) L L)) (first|go_keep|exact ⟨(cell_far e0 _).trans y3,(cell_far e1 _).trans d0,(cell_far e2 _).trans d1⟩)
    (first
     | (go_at_call 109;refine (HF0.out _ (HST.out _ HS.out) (below_drew HB.out)).mono ?_;rintro e w5 ⟨rfl,m5,S5,G5,SS5,B5⟩;have M5:=zk S5;have N5:=zk G5;have P5:=zk SS5;have Q5:=zk B5;clear S5 G5 SS5 B5;obtain ⟨y0,y1,y2,y3,g0,g1,g2,g3⟩:=blk4 (M5.out.z ok);have d0:=M5.out.m0 ok Hq.out;have d1:=M5.out.m1 ok Hq.out Hi.out;have d2:=M5.out.fr Hq.out Hi.out j;have d3:=M5.out.m2 Hq.out Hi.out Hj.out;generalize (m5 q i).getD j 0=vv at d3)
     | (go_at_call 89;refine (HBit.out _).mono ?_;rintro e w6 ⟨rfl,⟨nd,rfl⟩⟩))
   try go_wp2
   go_meet
   case rel =>
    have hl5:=(M5.out.rw q i Hq.out Hi.out).2
    have he:=HE.out m5 hl5 N5.out P5.out
    rw [show IntKind.i64.wrap 2=2 by decide]
    exact ⟨_,⟨(show SSt l W1 L m5 (w5.drewN nd) from ⟨M5.out.st,M5.out.rw,M5.out.le⟩).put ok Hq.out Hi.out j _⟩,⟨he.1⟩,⟨he.2⟩,⟨by rw [upd_self,getD_lt (by have:=Hj.out;omega)]⟩,⟨(show Below w0.heap.size w0 (w5.drewN nd) from pw_below_drewN Q5.out nd).setCell (ok.lo q i Hq.out Hi.out) _⟩⟩
  case rest =>
   clear z0 z1 z2 z3 f0 f1 f2 f3 c0 c1 c2 n0
   obtain ⟨m5,M5,N5,P5,V5,Q5⟩:=hcut
   obtain ⟨z0,z1,z2,z3,f0,f1,f2,f3⟩:=blk4 (M5.out.z ok)
   have c0:=M5.out.m0 ok Hq.out
   have c1:=M5.out.m1 ok Hq.out Hi.out
   have c2:=M5.out.m2 Hq.out Hi.out Hj.out
   rw [V5.out] at c2
   go_wp2
   go_ret
   exact ⟨rfl,m5,M5.out,N5.out,P5.out,Q5.out⟩
 ·simp only [if_true,Bool.false_eq_true,if_false] at HBit HE
  go_enter Tryz.func104,Tryz.ntmps104
  go_upto_region 4 with (fail)
  go_cut [] (fun wc=>∃ m5,Aside0 (SSt l W1 L m5 wc)∧Aside0 (Gs L T m5 lo (q+1))∧Aside0 (Ss L m m5 lo (q+1))∧Aside0 ((m5 q i).getD j 0=1)∧Aside0 (Below w0.heap.size w0 wc))
  case first =>
   clear n0 c2
   go_region_held3 (fun w'=>w'.cell? ⟨g,3,none⟩=some (.slice (some ⟨l.bm,0,none⟩) l.N l.cm)∧w'.cell? ⟨l.bm,q,none⟩=some (.slice (some ⟨l.tb q,0,none⟩) L (l.tc q))∧w'.cell? ⟨l.tb q,i,none⟩=some (.slice (some ⟨l.rb q i,0,none⟩) L L)) (first|go_keep|exact ⟨(cell_far e0 _).trans y3,(cell_far e1 _).trans d0,(cell_far e2 _).trans d1⟩)
    (first
     | (go_at_call 109;refine (HF0.out _ (HST.out _ HS.out) (below_drew HB.out)).mono ?_;rintro e w5 ⟨rfl,m5,S5,G5,SS5,B5⟩;have M5:=zk S5;have N5:=zk G5;have P5:=zk SS5;have Q5:=zk B5;clear S5 G5 SS5 B5;obtain ⟨y0,y1,y2,y3,g0,g1,g2,g3⟩:=blk4 (M5.out.z ok);have d0:=M5.out.m0 ok Hq.out;have d1:=M5.out.m1 ok Hq.out Hi.out;have d2:=M5.out.fr Hq.out Hi.out j;have d3:=M5.out.m2 Hq.out Hi.out Hj.out;generalize (m5 q i).getD j 0=vv at d3)
     | (go_at_call 89;refine (HBit.out _).mono ?_;rintro e w6 ⟨rfl,⟨nd,rfl⟩⟩))
   try go_wp2
   go_meet
   case rel =>
    have hl5:=(M5.out.rw q i Hq.out Hi.out).2
    have he:=HE.out m5 hl5 N5.out P5.out
    rw [show IntKind.i64.wrap 1=1 by decide]
    exact ⟨_,⟨(show SSt l W1 L m5 (w5.drewN nd) from ⟨M5.out.st,M5.out.rw,M5.out.le⟩).put ok Hq.out Hi.out j _⟩,⟨he.1⟩,⟨he.2⟩,⟨by rw [upd_self,getD_lt (by have:=Hj.out;omega)]⟩,⟨(show Below w0.heap.size w0 (w5.drewN nd) from pw_below_drewN Q5.out nd).setCell (ok.lo q i Hq.out Hi.out) _⟩⟩
  case rest =>
   clear z0 z1 z2 z3 f0 f1 f2 f3 c0 c1 c2 n0
   obtain ⟨m5,M5,N5,P5,V5,Q5⟩:=hcut
   obtain ⟨z0,z1,z2,z3,f0,f1,f2,f3⟩:=blk4 (M5.out.z ok)
   have c0:=M5.out.m0 ok Hq.out
   have c1:=M5.out.m1 ok Hq.out Hi.out
   have c2:=M5.out.m2 Hq.out Hi.out Hj.out
   rw [V5.out] at c2
   go_wp2
   go_ret
   exact ⟨rfl,m5,M5.out,N5.out,P5.out,Q5.out⟩
set_option maxHeartbeats 4000000 in
theorem is_star (hk:(l.kd q == 8)=true) (hG:Gs L T m lo (q+1)) (hv:(m q i).getD j 0=0)
  (hf:∀ (m:Nat→Nat→List Int) (W:World),SSt l W1 L m W→Gs L T m lo (q+1)→Below w0.heap.size w0 W→Calls Tryz.prog 108 #[.pointer (some ⟨g,0,none⟩),.int .i64 (q:Int),.int .i64 (i:Int)] W fun e W'=>∃ m',e = .returned (.tuple #[])∧SSt l W1 L m' W'∧Gs L T m' lo (q+1)∧Ss L m m' lo (q+1)∧(∀ k,i≤k→k < L→(m' q i).getD k 0=if T q i k=true then 1 else 2)∧Below w0.heap.size w0 W') :
  Calls Tryz.prog 104 #[.pointer (some ⟨g,0,none⟩),.int .i64 (q:Int),.int .i64 (i:Int),.int .i64 (j:Int)] W (SPost l w0 W1 L T m lo (q+1) (.bool r)):=by
 have hi:i < L:=by omega
 have HF:=zk (hf m W hS hG hB)
 have HT:=zk hT
 obtain ⟨z0,z1,z2,z3,f0,f1,f2,f3⟩:=blk4 (hS.z ok)
 have c0:=hS.m0 ok hq
 have c1:=hS.m1 ok hq hi
 have c2:=hS.m2 hq hi hj
 have n0:=hS.n0 ok hq
 have q1:=eq_true hq
 have q2:=eq_true hi
 have q3:=eq_true hj
 have Hq:=zk hq
 have Hi:=zk hi
 have Hj:=zk hj
 rw [hv] at c2
 clear hS hB hG hv hq hj hT hf hi
 cases r
 all_goals
  go_enter Tryz.func104,Tryz.ntmps104
  go_wp2_with (go_at_call 108;(with_reducible refine HF.out.mono ?_);rintro e w5 ⟨m5,rfl,S5,G5,SS5,V5,B5⟩;have M5:=zk S5;have N5:=zk G5;have P5:=zk SS5;have Q5:=zk B5;have d2:=M5.out.m2 Hq.out Hi.out Hj.out;rw [V5 j hij Hj.out,HT.out] at d2;clear S5 G5 SS5 V5 B5 z0 z1 z2 z3 f0 f1 f2 f3 c0 c1 c2 n0;simp only [if_true,Bool.false_eq_true,if_false] at d2;obtain ⟨z0,z1,z2,z3,f0,f1,f2,f3⟩:=blk4 (M5.out.z ok);have c0:=M5.out.m0 ok Hq.out;have c1:=M5.out.m1 ok Hq.out Hi.out)
  go_ret
  exact ⟨rfl,m5,M5.out,N5.out,P5.out,Q5.out⟩
end
def IC (l:Lay) (w0 W1:World) (g:Nat) (s:ByteArray) (L:Nat) (T:Nat→Nat→Nat→Bool) (t:Rx) (p lo:Nat):Prop :=
 ∀ (i j:Nat) (pv iv jv:Int) (m:Nat→Nat→List Int) (W:World),pv=(p:Int)→iv=(i:Int)→jv=(j:Int)→i≤j→j < L→SSt l W1 L m W→Gs L T m lo (p+1)→Below w0.heap.size w0 W →
  Calls Tryz.prog 104 #[.pointer (some ⟨g,0,none⟩),.int .i64 pv,.int .i64 iv,.int .i64 jv] W (SPost l w0 W1 L T m lo (p+1) (.bool (mt s t i j)))
section
variable (l : Lay) (w0 W1 : World) (g : Nat) (s : ByteArray) (L : Nat) (ok : LayOk l w0 W1 g s L) (hsL : s.size + 1 = L) (hL : L ≤ 401) (T : Nat → Nat → Nat → Bool) (lo q i j : Nat) (hlo : lo ≤ q) (hq : q < l.N) (hij : i ≤ j) (hj : j < L)
 (m:Nat→Nat→List Int) (W:World) (hS:SSt l W1 L m W) (hB:Below w0.heap.size w0 W) (hG:Gs L T m lo q)
include ok hsL hL hlo hq hij hj hS hB hG
set_option maxHeartbeats 4000000 in
theorem sfind_leaf (r:Bool) (hk:(l.kd q=1∧r=false)∨(l.kd q=2∧r=(i == j))∨(l.kd q=4∧r=(j == i+1))∨(l.kd q=3∧r=((s.extract i j).toList == (l.lt q).toList))) :
  Calls Tryz.prog 109 #[.pointer (some ⟨g,0,none⟩),.int .i64 (q:Int),.int .i64 (i:Int),.int .i64 (j:Int)] W (SPost l w0 W1 L T m lo q (.bool r)):=by
 have HS:=zk hS
 have HB:=zk hB
 have HG:=zk hG
 obtain ⟨z0,z1,z2,z3,f0,f1,f2,f3⟩:=blk4 (hS.z ok)
 have n0:=hS.n0 ok hq
 have n1:=hS.n1 ok hq
 have c0:=hS.a0 ok hq
 have q1:=eq_true hq
 have Hq:=zk hq
 have e1:((i:Int) == (j:Int))=(i == j):=by rw [Bool.eq_iff_iff];simp;omega
 have e2:((j:Int) == (i:Int)+1)=(j == i+1):=by rw [Bool.eq_iff_iff];simp;omega
 have hi9:i≤401:=by omega
 have hjs:=eq_true (show j≤s.size by omega)
 have hij2:=eq_true hij
 clear hS hB hG hq hij hj
 rcases hk with ⟨hk,rfl⟩|⟨hk,rfl⟩|⟨hk,rfl⟩|⟨hk,rfl⟩
 all_goals
  rw [hk] at n0
  clear hk
  go_enter Tryz.func109,Tryz.ntmps109
  go_wp2
  repeat (go_quiet (fail);try go_wp2)
  go_ret
  exact ⟨za74,m,⟨HS.out.st,HS.out.rw,HS.out.le⟩,HG.out,Ss.refl _ _ _ _,by repeat (first|exact HB.out|apply pw_below_drewN)⟩
set_option maxHeartbeats 4000000 in
theorem sfind_not (t:Rx) (a:Nat) (hk:l.kd q=9) (har:l.ar q = [(a:Int)]) (h1:lo≤a) (h3:a+1=q) (hx:IC l w0 W1 g s L T t a lo) :
  Calls Tryz.prog 109 #[.pointer (some ⟨g,0,none⟩),.int .i64 (q:Int),.int .i64 (i:Int),.int .i64 (j:Int)] W (SPost l w0 W1 L T m lo q (.bool (!mt s t i j))):=by
 have HS:=zk hS
 have HB:=zk hB
 have HG:=zk hG
 obtain ⟨z0,z1,z2,z3,f0,f1,f2,f3⟩:=blk4 (hS.z ok)
 have n0:=hS.n0 ok hq
 have n1:=hS.n1 ok hq
 have c0:=hS.a0 ok hq
 have q1:=eq_true hq
 have Hq:=zk hq
 obtain ⟨ab,ha,hst,x0⟩:=ok.a1 q hq 0 (by rw [har];simp)
 rw [har] at x0 c0
 rw [ha] at c0
 simp only [List.getD_cons_zero,List.length_cons,List.length_nil,Nat.zero_add] at x0 c0
 have y0:=hS.cell_ hst x0
 have HX:=zk (hx i j (a:Int) i j m W rfl rfl rfl hij hj hS (hG.sub (Nat.le_refl _) (by omega)) hB)
 have HN:=zk (show lo≤a∧a+1=q from ⟨h1,h3⟩)
 clear hS hB hG hq hij hj x0 hst ha har hx h1 h3
 rw [hk] at n0
 clear hk
 go_enter Tryz.func109,Tryz.ntmps109
 go_wp2_with (go_at_call 104;(with_reducible refine HX.out.mono ?_);rintro e w7 ⟨rfl,m7,S7,G7,SS7,B7⟩;have M7:=zk S7;have N7:=zk (HG.out.next G7 SS7);have P7:=zk (Ss.next (Ss.refl L m lo q) SS7 za55 za55);have Q7:=zk B7;clear S7 G7 SS7 B7)
 go_ret
 exact ⟨rfl,m7,M7.out,N7.out,P7.out,Q7.out⟩
set_option maxHeartbeats 4000000 in
theorem sfind_or (t u:Rx) (a b:Nat) (hk:l.kd q=6) (har:l.ar q = [(a:Int),(b:Int)]) (h1:lo≤a) (h2:a < b) (h3:b+1=q) (hx:IC l w0 W1 g s L T t a lo) (hy:IC l w0 W1 g s L T u b (a+1)) :
  Calls Tryz.prog 109 #[.pointer (some ⟨g,0,none⟩),.int .i64 (q:Int),.int .i64 (i:Int),.int .i64 (j:Int)] W (SPost l w0 W1 L T m lo q (.bool (mt s t i j || mt s u i j))):=by
 have HS:=zk hS
 have HB:=zk hB
 have HG:=zk hG
 obtain ⟨z0,z1,z2,z3,f0,f1,f2,f3⟩:=blk4 (hS.z ok)
 have n0:=hS.n0 ok hq
 have n1:=hS.n1 ok hq
 have c0:=hS.a0 ok hq
 have q1:=eq_true hq
 have Hq:=zk hq
 obtain ⟨ab,ha,hst,x0⟩:=ok.a1 q hq 0 (by rw [har];simp)
 obtain ⟨ab',ha',_,x1⟩:=ok.a1 q hq 1 (by rw [har];simp)
 obtain rfl:ab=ab':=by rw [ha] at ha';injection ha' with h;injection h
 clear ha'
 rw [har] at x0 x1 c0
 rw [ha] at c0
 simp only [List.getD_cons_zero,List.getD_cons_succ,List.length_cons,List.length_nil,Nat.zero_add,Nat.reduceAdd] at x0 x1 c0
 have X0:=zk x0
 have X1:=zk x1
 have HST:=zk hst
 have y0:=hS.cell_ hst x0
 have y1:=hS.cell_ hst x1
 have HN:=zk (show lo≤a∧a < b∧b+1=q from ⟨h1,h2,h3⟩)
 have HX:=zk (fun (m':Nat→Nat→List Int) (W':World) (hS':SSt l W1 L m' W') (hG':Gs L T m' lo q) (hB':Below w0.heap.size w0 W')=>hx i j (a:Int) i j m' W' rfl rfl rfl hij hj hS' (hG'.sub (Nat.le_refl _) (by omega)) hB')
 have HY:=zk (fun (m':Nat→Nat→List Int) (W':World) (hS':SSt l W1 L m' W') (hG':Gs L T m' lo q) (hB':Below w0.heap.size w0 W')=>hy i j (b:Int) i j m' W' rfl rfl rfl hij hj hS' (hG'.sub (by omega) (by omega)) hB')
 clear hS hB hG hq hij hj x0 x1 hst ha har hx hy h1 h2 h3
 rw [hk] at n0
 clear hk
 cases hv:mt s t i j
 all_goals go_enter Tryz.func109,Tryz.ntmps109
 ·go_wp2_with (first|(go_at_call 104;(with_reducible refine (HX.out m _ HS.out HG.out HB.out).mono ?_);rintro e w7 ⟨he,m7,S7,G7,SS7,B7⟩;rw [hv] at he;subst he;have M7:=zk S7;have N7:=zk (HG.out.next G7 SS7);have P7:=zk (Ss.next (Ss.refl L m lo q) SS7 za55 za55);have Q7:=zk B7;clear S7 G7 SS7 B7 z0 z1 z2 z3 f0 f1 f2 f3 n0 n1 c0 y0 y1;have y1:=M7.out.cell_ HST.out X1.out)|(go_at_call 104;(with_reducible refine (HY.out m7 _ M7.out N7.out Q7.out).mono ?_);rintro e w8 ⟨rfl,m8,S8,G8,SS8,B8⟩;have M8:=zk S8;have N8:=zk (N7.out.next G8 SS8);have P8:=zk (Ss.next P7.out SS8 za55 za55);have Q8:=zk B8;clear S8 G8 SS8 B8))
  go_ret
  exact ⟨za93,m8,M8.out,N8.out,P8.out,Q8.out⟩
 ·go_wp2_with (go_at_call 104;(with_reducible refine (HX.out m _ HS.out HG.out HB.out).mono ?_);rintro e w7 ⟨he,m7,S7,G7,SS7,B7⟩;rw [hv] at he;subst he;have M7:=zk S7;have N7:=zk (HG.out.next G7 SS7);have P7:=zk (Ss.next (Ss.refl L m lo q) SS7 za55 za55);have Q7:=zk B7;clear S7 G7 SS7 B7 z0 z1 z2 z3 f0 f1 f2 f3 n0 n1 c0 y0 y1;have y1:=M7.out.cell_ HST.out X1.out)
  go_ret
  exact ⟨za93,m7,M7.out,N7.out,P7.out,Q7.out⟩
set_option maxHeartbeats 4000000 in
theorem sfind_and (t u:Rx) (a b:Nat) (hk:l.kd q=7) (har:l.ar q = [(a:Int),(b:Int)]) (h1:lo≤a) (h2:a < b) (h3:b+1=q) (hx:IC l w0 W1 g s L T t a lo) (hy:IC l w0 W1 g s L T u b (a+1)) :
  Calls Tryz.prog 109 #[.pointer (some ⟨g,0,none⟩),.int .i64 (q:Int),.int .i64 (i:Int),.int .i64 (j:Int)] W (SPost l w0 W1 L T m lo q (.bool (mt s t i j && mt s u i j))):=by
 have HS:=zk hS
 have HB:=zk hB
 have HG:=zk hG
 obtain ⟨z0,z1,z2,z3,f0,f1,f2,f3⟩:=blk4 (hS.z ok)
 have n0:=hS.n0 ok hq
 have n1:=hS.n1 ok hq
 have c0:=hS.a0 ok hq
 have q1:=eq_true hq
 have Hq:=zk hq
 obtain ⟨ab,ha,hst,x0⟩:=ok.a1 q hq 0 (by rw [har];simp)
 obtain ⟨ab',ha',_,x1⟩:=ok.a1 q hq 1 (by rw [har];simp)
 obtain rfl:ab=ab':=by rw [ha] at ha';injection ha' with h;injection h
 clear ha'
 rw [har] at x0 x1 c0
 rw [ha] at c0
 simp only [List.getD_cons_zero,List.getD_cons_succ,List.length_cons,List.length_nil,Nat.zero_add,Nat.reduceAdd] at x0 x1 c0
 have X0:=zk x0
 have X1:=zk x1
 have HST:=zk hst
 have y0:=hS.cell_ hst x0
 have y1:=hS.cell_ hst x1
 have HN:=zk (show lo≤a∧a < b∧b+1=q from ⟨h1,h2,h3⟩)
 have HX:=zk (fun (m':Nat→Nat→List Int) (W':World) (hS':SSt l W1 L m' W') (hG':Gs L T m' lo q) (hB':Below w0.heap.size w0 W')=>hx i j (a:Int) i j m' W' rfl rfl rfl hij hj hS' (hG'.sub (Nat.le_refl _) (by omega)) hB')
 have HY:=zk (fun (m':Nat→Nat→List Int) (W':World) (hS':SSt l W1 L m' W') (hG':Gs L T m' lo q) (hB':Below w0.heap.size w0 W')=>hy i j (b:Int) i j m' W' rfl rfl rfl hij hj hS' (hG'.sub (by omega) (by omega)) hB')
 clear hS hB hG hq hij hj x0 x1 hst ha har hx hy h1 h2 h3
 rw [hk] at n0
 clear hk
 cases hv:mt s t i j
 all_goals go_enter Tryz.func109,Tryz.ntmps109
 ·go_wp2_with (go_at_call 104;(with_reducible refine (HX.out m _ HS.out HG.out HB.out).mono ?_);rintro e w7 ⟨he,m7,S7,G7,SS7,B7⟩;rw [hv] at he;subst he;have M7:=zk S7;have N7:=zk (HG.out.next G7 SS7);have P7:=zk (Ss.next (Ss.refl L m lo q) SS7 za55 za55);have Q7:=zk B7;clear S7 G7 SS7 B7 z0 z1 z2 z3 f0 f1 f2 f3 n0 n1 c0 y0 y1;have y1:=M7.out.cell_ HST.out X1.out)
  go_ret
  exact ⟨za93,m7,M7.out,N7.out,P7.out,Q7.out⟩
 ·go_wp2_with (first|(go_at_call 104;(with_reducible refine (HX.out m _ HS.out HG.out HB.out).mono ?_);rintro e w7 ⟨he,m7,S7,G7,SS7,B7⟩;rw [hv] at he;subst he;have M7:=zk S7;have N7:=zk (HG.out.next G7 SS7);have P7:=zk (Ss.next (Ss.refl L m lo q) SS7 za55 za55);have Q7:=zk B7;clear S7 G7 SS7 B7 z0 z1 z2 z3 f0 f1 f2 f3 n0 n1 c0 y0 y1;have y1:=M7.out.cell_ HST.out X1.out)|(go_at_call 104;(with_reducible refine (HY.out m7 _ M7.out N7.out Q7.out).mono ?_);rintro e w8 ⟨rfl,m8,S8,G8,SS8,B8⟩;have M8:=zk S8;have N8:=zk (N7.out.next G8 SS8);have P8:=zk (Ss.next P7.out SS8 za55 za55);have Q8:=zk B8;clear S8 G8 SS8 B8))
  go_ret
  exact ⟨za93,m8,M8.out,N8.out,P8.out,Q8.out⟩
set_option maxHeartbeats 4000000 in
theorem sfind_cat (t u:Rx) (a b:Nat) (hk:l.kd q=5) (har:l.ar q = [(a:Int),(b:Int)]) (h1:lo≤a) (h2:a < b) (h3:b+1=q) (hx:IC l w0 W1 g s L T t a lo) (hy:IC l w0 W1 g s L T u b (a+1)) :
  Calls Tryz.prog 109 #[.pointer (some ⟨g,0,none⟩),.int .i64 (q:Int),.int .i64 (i:Int),.int .i64 (j:Int)] W (SPost l w0 W1 L T m lo q (.bool (exIn (fun k=>mt s t i k && mt s u k j) i j))):=by
 have HS:=zk hS
 have HB:=zk hB
 have HG:=zk hG
 obtain ⟨z0,z1,z2,z3,f0,f1,f2,f3⟩:=blk4 (hS.z ok)
 have n0:=hS.n0 ok hq
 have n1:=hS.n1 ok hq
 have c0:=hS.a0 ok hq
 have q1:=eq_true hq
 have Hq:=zk hq
 obtain ⟨ab,ha,hst,x0⟩:=ok.a1 q hq 0 (by rw [har];simp)
 obtain ⟨ab',ha',_,x1⟩:=ok.a1 q hq 1 (by rw [har];simp)
 obtain rfl:ab=ab':=by rw [ha] at ha';injection ha' with h;injection h
 clear ha'
 rw [har] at x0 x1 c0
 rw [ha] at c0
 simp only [List.getD_cons_zero,List.getD_cons_succ,List.length_cons,List.length_nil,Nat.zero_add,Nat.reduceAdd] at x0 x1 c0
 have X0:=zk x0
 have X1:=zk x1
 have HST:=zk hst
 have y0:=hS.cell_ hst x0
 have y1:=hS.cell_ hst x1
 have HN:=zk (show lo≤a∧a < b∧b+1=q from ⟨h1,h2,h3⟩)
 have HX:=zk (fun (kk:Nat) (m':Nat→Nat→List Int) (W':World) (g1:i≤kk) (g2:kk≤j) (hS':SSt l W1 L m' W') (hG':Gs L T m' lo q) (hB':Below w0.heap.size w0 W')=>hx i kk (a:Int) i kk m' W' rfl rfl rfl g1 (by omega) hS' (hG'.sub (Nat.le_refl _) (by omega)) hB')
 have HY:=zk (fun (kk:Nat) (m':Nat→Nat→List Int) (W':World) (g1:i≤kk) (g2:kk≤j) (hS':SSt l W1 L m' W') (hG':Gs L T m' lo q) (hB':Below w0.heap.size w0 W')=>hy kk j (b:Int) kk j m' W' rfl rfl rfl g2 hj hS' (hG'.sub (by omega) (by omega)) hB')
 have hj9:j≤401:=by omega
 clear hS hB hG hq x0 x1 hst ha har hx hy h1 h2 h3
 rw [hk] at n0
 clear hk
 go_enter Tryz.func109,Tryz.ntmps109
 go_wp2
 clear z0 z1 z2 z3 f0 f1 f2 f3 n0 n1 c0 y0 y1
 go_loopg [10] (j+1 - i) (fun kq v10 w'=>∃ (kk:Nat) (mm:Nat→Nat→List Int),v10 = .int .i64 (kk:Int)∧Aside0 (kk+kq=j+1)∧Aside0 (i≤kk)∧Aside0 (∀ k',i≤k'→k' < kk→(mt s t i k' && mt s u k' j)=false)∧Aside0 (SSt l W1 L mm w')∧Aside0 (Gs L T mm lo q)∧Aside0 (Ss L m mm lo q)∧Aside0 (Below w0.heap.size w0 w'))
 case atStart=>exact ⟨i,m,rfl,⟨by omega⟩,⟨Nat.le_refl _⟩,⟨fun k' h1 h2=>by omega⟩,HS,HG,⟨Ss.refl _ _ _ _⟩,HB⟩
 case round =>
  clear HS HG HB
  obtain ⟨kk,mm,rfl,HQ,HK1,HE,HS,HG,HP,HB⟩:=hrel
  have y0:=HS.out.cell_ HST.out X0.out
  have y1:=HS.out.cell_ HST.out X1.out
  by_cases hle:kk≤j
  ·have HK2:=zk hle
   have hd:decide (kk≤j)=true:=decide_eq_true hle
   clear hle
   have hk9:kk≤401:=by have:=HK2.out;omega
   cases gk with
   | zero=>exact absurd HQ.out za91
   | succ k1 =>
    cases hv:mt s t i kk
    ·go_wp2_with (go_at_call 104;(with_reducible refine (HX.out kk mm _ HK1.out HK2.out HS.out HG.out HB.out).mono ?_);rintro e w7 ⟨he,m7,S7,G7,SS7,B7⟩;rw [hv] at he;subst he;have M7:=zk S7;have N7:=zk (HG.out.next G7 SS7);have P7:=zk (Ss.next HP.out SS7 za55 za55);have Q7:=zk B7;clear S7 G7 SS7 B7 y0 y1;have y1:=M7.out.cell_ HST.out X1.out)
     go_roundg k1
     case measure=>omega
     case rel=>exact ⟨kk+1,m7,za93,⟨za88⟩,⟨za43⟩,⟨fun k' h1 h2=>by
       by_cases e:k'=kk
       ·subst e;rw [hv];rfl
       ·exact HE.out k' h1 (by omega)⟩,M7,N7,P7,Q7⟩
    ·cases hv2:mt s u kk j
     ·go_wp2_with (first|(go_at_call 104;(with_reducible refine (HX.out kk mm _ HK1.out HK2.out HS.out HG.out HB.out).mono ?_);rintro e w7 ⟨he,m7,S7,G7,SS7,B7⟩;rw [hv] at he;subst he;have M7:=zk S7;have N7:=zk (HG.out.next G7 SS7);have P7:=zk (Ss.next HP.out SS7 za55 za55);have Q7:=zk B7;clear S7 G7 SS7 B7 y0 y1;have y1:=M7.out.cell_ HST.out X1.out)|(go_at_call 104;(with_reducible refine (HY.out kk m7 _ HK1.out HK2.out M7.out N7.out Q7.out).mono ?_);rintro e w8 ⟨he,m8,S8,G8,SS8,B8⟩;rw [hv2] at he;subst he;have M8:=zk S8;have N8:=zk (N7.out.next G8 SS8);have P8:=zk (Ss.next P7.out SS8 za55 za55);have Q8:=zk B8;clear S8 G8 SS8 B8))
      go_roundg k1
      case measure=>omega
      case rel=>exact ⟨kk+1,m8,za93,⟨za88⟩,⟨za43⟩,⟨fun k' h1 h2=>by
        by_cases e:k'=kk
        ·subst e;rw [hv,hv2];rfl
        ·exact HE.out k' h1 (by omega)⟩,M8,N8,P8,Q8⟩
     ·go_wp2_with (first|(go_at_call 104;(with_reducible refine (HX.out kk mm _ HK1.out HK2.out HS.out HG.out HB.out).mono ?_);rintro e w7 ⟨he,m7,S7,G7,SS7,B7⟩;rw [hv] at he;subst he;have M7:=zk S7;have N7:=zk (HG.out.next G7 SS7);have P7:=zk (Ss.next HP.out SS7 za55 za55);have Q7:=zk B7;clear S7 G7 SS7 B7 y0 y1;have y1:=M7.out.cell_ HST.out X1.out)|(go_at_call 104;(with_reducible refine (HY.out kk m7 _ HK1.out HK2.out M7.out N7.out Q7.out).mono ?_);rintro e w8 ⟨he,m8,S8,G8,SS8,B8⟩;rw [hv2] at he;subst he;have M8:=zk S8;have N8:=zk (N7.out.next G8 SS8);have P8:=zk (Ss.next P7.out SS8 za55 za55);have Q8:=zk B8;clear S8 G8 SS8 B8))
      go_ret
      exact ⟨by rw [(exIn_iff _ _ _).2 ⟨kk,HK1.out,HK2.out,by rw [hv,hv2];rfl⟩];rfl,m8,M8.out,N8.out,P8.out,Q8.out⟩
  ·have hd:decide (kk≤j)=false:=decide_eq_false hle
   have HF:exIn (fun k=>mt s t i k && mt s u k j) i j=false:=by
    rw [Bool.eq_false_iff]
    intro h
    obtain ⟨k',h1,h2,h3⟩:=(exIn_iff _ _ _).1 h
    rw [HE.out k' h1 (by omega)] at h3
    exact absurd h3 (by simp)
   have HF2:=zk HF
   clear hle HF
   go_wp2
   go_ret
   exact ⟨by rw [HF2.out];rfl,mm,HS.out,HG.out,HP.out,HB.out⟩
end
def tv (b:Bool):Int:=if b=true then 1 else 2
theorem tv_true:tv true=1:=rfl
theorem tv_false:tv false=2:=rfl
section
variable (l : Lay) (w0 W1 : World) (g : Nat) (s : ByteArray) (L : Nat) (ok : LayOk l w0 W1 g s L) (hsL : s.size + 1 = L) (hL : L ≤ 401) (T : Nat → Nat → Nat → Bool) (lo q i : Nat) (hlo : lo ≤ q) (hq : q < l.N) (hi : i < L)
 (t:Rx) (a:Nat) (har:l.ar q = [(a:Int)]) (h1:lo≤a) (h3:a+1=q) (hx:IC l w0 W1 g s L T t a lo) (hT:∀ i j,T q i j=mt s (.star t) i j)
 (m:Nat→Nat→List Int) (W:World) (hS:SSt l W1 L m W) (hB:Below w0.heap.size w0 W) (hG:Gs L T m lo (q+1))
include ok hsL hL hlo hq hi har h1 h3 hx hT hS hB hG
theorem star_calls:Calls Tryz.prog 108 #[.pointer (some ⟨g,0,none⟩),.int .i64 (q:Int),.int .i64 (i:Int)] W fun e W'=>∃ m',e = .returned (.tuple #[])∧SSt l W1 L m' W'∧Gs L T m' lo (q+1)∧Ss L m m' lo (q+1)∧(∀ k,i≤k→k < L→(m' q i).getD k 0=if T q i k=true then 1 else 2)∧Below w0.heap.size w0 W':=by
 obtain ⟨ab,ha,hst,x0⟩:=ok.a1 q hq 0 (by rw [har];simp)
 have hac:l.aA q=some ⟨ab,0,none⟩:=ha
 have hal:(l.ar q).length=1:=by rw [har];rfl
 rw [har] at x0
 simp only [List.getD_cons_zero] at x0
 have X0:=zk x0
 have HST:=zk hst
 have HAC:Aside0 (∀ μ W',SSt l W1 L μ W'→W'.cell? ⟨l.ba,q,none⟩=some (.slice (some ⟨ab,0,none⟩) 1 (l.ac q))):=⟨fun μ W' h=>by have:=h.a0 ok hq;rwa [hac,hal] at this⟩
 have HS:=zk hS
 have HB:=zk hB
 have HG:=zk hG
 have Hq:=zk hq
 have Hi:=zk hi
 have q1:=eq_true hq
 have q2:=eq_true hi
 have HN:=zk (show lo≤a∧a+1=q from ⟨h1,h3⟩)
 have HX:=zk (fun (p kk:Nat) (m':Nat→Nat→List Int) (W':World) (g1:p≤kk) (g2:kk < L) (hS':SSt l W1 L m' W') (hG':Gs L T m' lo q) (hB':Below w0.heap.size w0 W')=>hx p kk (a:Int) p kk m' W' rfl rfl rfl g1 g2 hS' (hG'.sub (Nat.le_refl _) (by omega)) hB')
 have HT:=zk hT
 have HBt:=zk (fun (W':World)=>bit_calls true W')
 have HBf:=zk (fun (W':World)=>bit_calls false W')
 have HL:=zk hL
 have hi9:i≤401:=by omega
 clear hS hB hG hq hi x0 hst ha har hx h1 h3 hac hal hT hL
 go_enter Tryz.func108,Tryz.ntmps108
 go_wp2
 go_loopg [6] (L - i) (fun kq v6 w'=>∃ (kk:Nat) (μ:Nat→Nat→List Int),v6 = .int .i64 (kk:Int)∧Aside0 (kk+kq=L)∧Aside0 (i≤kk)∧Aside0 (∀ k,i≤k→k < kk→(μ q i).getD k 0=tv (mt s (.star t) i k))∧Aside0 (SSt l W1 L μ w')∧Aside0 (Gs L T μ lo (q+1))∧Aside0 (Ss L m μ lo (q+1))∧Aside0 (Below w0.heap.size w0 w'))
 case atStart=>exact ⟨i,m,rfl,⟨by have:=Hi.out;omega⟩,⟨Nat.le_refl _⟩,⟨fun k h1 h2=>by omega⟩,HS,HG,⟨Ss.refl _ _ _ _⟩,HB⟩
 case round =>
  clear HS HG HB
  obtain ⟨kk,μ,rfl,HQ,HK1,HE,HS,HG,HP,HB⟩:=hrel
  obtain ⟨z0,z1,z2,z3,f0,f1,f2,f3⟩:=blk4 (HS.out.z ok)
  by_cases hle:kk≤s.size
  ·have HK2:=zk (show kk < L by omega)
   have hd:decide (kk≤s.size)=true:=decide_eq_true hle
   have q3:=eq_true (show kk < L by omega)
   clear hle
   have hk9:kk≤401:=by have:=HK2.out;have:=HL.out;omega
   cases gk with
   | zero=>exact absurd HQ.out za91
   | succ k1 =>
    have c0:=HS.out.m0 ok Hq.out
    have c1:=HS.out.m1 ok Hq.out Hi.out
    have c2:=HS.out.m2 Hq.out Hi.out HK2.out
    generalize (μ q i).getD kk 0=vv at c2
    have d2:=HS.out.fr Hq.out Hi.out kk
    have e0:=ok.sg.2 q i Hq.out Hi.out
    have e1:=ok.sm.2 q i Hq.out Hi.out
    have e2:=(ok.st q Hq.out).2 q i Hq.out Hi.out
    go_upto_region 3 with (fail)
    go_cut [] (fun wc=>∃ μ2,Aside0 (SSt l W1 L μ2 wc)∧Aside0 (∀ q' i' j',¬ (q'=q∧i'=i∧j'=kk)→(μ2 q' i').getD j' 0=(μ q' i').getD j' 0)∧Aside0 ((μ2 q i).getD kk 0=if kk=i then 1 else 2)∧Aside0 (Below w0.heap.size w0 wc))
    case first =>
     by_cases hki:kk=i
     ·have hb1:((kk:Int) == (i:Int))=true:=by simp;omega
      have hb2:(kk == i)=true:=by simpa using hki
      have HKI:=zk hki
      clear hki
      go_region_held3 (fun w'=>w'.cell? ⟨g,3,none⟩=some (.slice (some ⟨l.bm,0,none⟩) l.N l.cm)∧w'.cell? ⟨l.bm,q,none⟩=some (.slice (some ⟨l.tb q,0,none⟩) L (l.tc q))∧w'.cell? ⟨l.tb q,i,none⟩=some (.slice (some ⟨l.rb q i,0,none⟩) L L)) (first|go_keep|exact ⟨(cell_far e0 _).trans z3,(cell_far e1 _).trans c0,(cell_far e2 _).trans c1⟩)
       (first|(go_at_call 89;refine (HBt.out _).mono ?_;rintro e w6 ⟨rfl,⟨nd,rfl⟩⟩))
      try go_wp2
      go_meet
      case rel =>
       have hl5:=(HS.out.rw q i Hq.out Hi.out).2
       rw [show IntKind.i64.wrap 1=1 by decide]
       exact ⟨_,⟨(show SSt l W1 L μ (wr.drewN (1+nd)) from ⟨HS.out.st,HS.out.rw,HS.out.le⟩).put ok Hq.out Hi.out kk _⟩,⟨fun q' i' j' h=>by
        by_cases e:q'=q∧i'=i
        ·rw [e.1,e.2,upd_self,getD_ne _ (fun e'=>h ⟨e.1,e.2,e'.symm⟩)]
        ·rw [upd_ne _ _ e]⟩,⟨by rw [upd_self,getD_lt za91,if_pos HKI.out]⟩,⟨(show Below w0.heap.size w0 (wr.drewN (1+nd)) from pw_below_drewN HB.out _).setCell (ok.lo q i Hq.out Hi.out) _⟩⟩
     ·have hb1:((kk:Int) == (i:Int))=false:=by simp;omega
      have hb2:(kk == i)=false:=by simpa using hki
      have HKI:=zk hki
      clear hki
      go_region_held3 (fun w'=>w'.cell? ⟨g,3,none⟩=some (.slice (some ⟨l.bm,0,none⟩) l.N l.cm)∧w'.cell? ⟨l.bm,q,none⟩=some (.slice (some ⟨l.tb q,0,none⟩) L (l.tc q))∧w'.cell? ⟨l.tb q,i,none⟩=some (.slice (some ⟨l.rb q i,0,none⟩) L L)) (first|go_keep|exact ⟨(cell_far e0 _).trans z3,(cell_far e1 _).trans c0,(cell_far e2 _).trans c1⟩)
       (first|(go_at_call 89;refine (HBf.out _).mono ?_;rintro e w6 ⟨rfl,⟨nd,rfl⟩⟩))
      try go_wp2
      go_meet
      case rel =>
       have hl5:=(HS.out.rw q i Hq.out Hi.out).2
       rw [show IntKind.i64.wrap 2=2 by decide]
       exact ⟨_,⟨(show SSt l W1 L μ (wr.drewN (1+nd)) from ⟨HS.out.st,HS.out.rw,HS.out.le⟩).put ok Hq.out Hi.out kk _⟩,⟨fun q' i' j' h=>by
        by_cases e:q'=q∧i'=i
        ·rw [e.1,e.2,upd_self,getD_ne _ (fun e'=>h ⟨e.1,e.2,e'.symm⟩)]
        ·rw [upd_ne _ _ e]⟩,⟨by rw [upd_self,getD_lt za91,if_neg HKI.out]⟩,⟨(show Below w0.heap.size w0 (wr.drewN (1+nd)) from pw_below_drewN HB.out _).setCell (ok.lo q i Hq.out Hi.out) _⟩⟩
    case rest =>
     clear z0 z1 z2 z3 f0 f1 f2 f3 c0 c1 c2 d2 e0 e1 e2
     obtain ⟨μ2,HS2,HD2,HV2,HB2⟩:=hcut
     have HP2:Aside0 (Ss L m μ2 lo (q+1)):=⟨fun q' i' j' h h1 h2=>by rw [HD2.out q' i' j' (fun e=>h za55)];exact HP.out q' i' j' h h1 h2⟩
     have HG2:Aside0 (∀ q' i' j',lo≤q'→q' < q+1→i'≤j'→j' < L→¬ (q'=q∧i'=i∧j'=kk)→(μ2 q' i').getD j' 0=0∨(μ2 q' i').getD j' 0=if T q' i' j'=true then 1 else 2):=⟨fun q' i' j' h1 h2 h3 h4 h5=>by rw [HD2.out q' i' j' h5];exact HG.out q' i' j' h1 h2 h3 h4⟩
     have HE2:Aside0 (∀ k,i≤k→k < kk→(μ2 q i).getD k 0=tv (mt s (.star t) i k)):=⟨fun k h1 h2=>by rw [HD2.out q i k (fun e=>by omega)];exact HE.out k h1 h2⟩
     have HV3:Aside0 (((μ2 q i).getD kk 0=1∧mt s (.star t) i kk=true)∨((μ2 q i).getD kk 0=2∧i < kk)):=⟨by
      by_cases e:kk=i
      ·left;refine ⟨by rw [HV2.out,if_pos e],by rw [e];exact star_self _ _ _⟩
      ·right;exact ⟨by rw [HV2.out,if_neg e],za43⟩⟩
     clear HS HG HP HE HB HD2 HV2
     go_wp2
     go_loopg [7] (kk+1 - i) (fun kq v7 w'=>∃ (p:Nat) (ν:Nat→Nat→List Int),v7 = .int .i64 (p:Int)∧Aside0 (p+kq=kk+1)∧Aside0 (i≤p∧p≤kk)∧Aside0 (∀ k,i≤k→k < kk→(ν q i).getD k 0=tv (mt s (.star t) i k))∧Aside0 (SSt l W1 L ν w')∧Aside0 (∀ q' i' j',lo≤q'→q' < q+1→i'≤j'→j' < L→¬ (q'=q∧i'=i∧j'=kk)→(ν q' i').getD j' 0=0∨(ν q' i').getD j' 0=if T q' i' j'=true then 1 else 2)∧Aside0 (Ss L m ν lo (q+1))∧Aside0 (((ν q i).getD kk 0=1∧mt s (.star t) i kk=true)∨((ν q i).getD kk 0=2∧i < kk∧∀ p',i≤p'→p' < p→(mt s (.star t) i p' && mt s t p' kk)=false))∧Aside0 (Below w0.heap.size w0 w'))
     case atStart=>exact ⟨i,μ2,rfl,⟨za43⟩,⟨Nat.le_refl _,HK1.out⟩,HE2,HS2,HG2,HP2,⟨by
      rcases HV3.out with h|h
      ·exact .inl h
      ·exact .inr ⟨h.1,h.2,fun p' h1 h2=>by omega⟩⟩,HB2⟩
     case round =>
      clear HS2 HG2 HE2 HP2 HV3 HB2
      obtain ⟨p,ν,rfl,HQ2,HR,HE,HS,HG,HP,HV,HB⟩:=hrel
      obtain ⟨z0,z1,z2,z3,f0,f1,f2,f3⟩:=blk4 (HS.out.z ok)
      have c0:=HS.out.m0 ok Hq.out
      have c1:=HS.out.m1 ok Hq.out Hi.out
      have c2:=HS.out.m2 Hq.out Hi.out HK2.out
      have DONE:Aside0 (∀ b,(ν q i).getD kk 0=tv b→mt s (.star t) i kk=b→Gs L T ν lo (q+1)∧∀ k,i≤k→k < kk+1→(ν q i).getD k 0=tv (mt s (.star t) i k)):=⟨fun b hb hb2=>⟨fun q' i' j' h1 h2 h3 h4=>by
        by_cases e:q'=q∧i'=i∧j'=kk
        ·rw [e.1,e.2.1,e.2.2,hb,HT.out,hb2];exact .inr rfl
        ·exact HG.out q' i' j' h1 h2 h3 h4 e,fun k h1 h2=>by
        by_cases e:k=kk
        ·subst e;rw [hb,hb2]
        ·exact HE.out k h1 (by omega)⟩⟩
      rcases HV.out with ⟨hv,hst⟩|⟨hv,hik,hno⟩
      ·rw [hv] at c2
       have DN:=zk (DONE.out true (by rw [hv];rfl) hst)
       clear hv hst DONE
       by_cases hpk:p < kk
       ·have hd2:decide (p < kk)=true:=decide_eq_true hpk
        clear hpk
        go_wp2
        go_roundg k1
        case measure=>omega
        case rel=>exact ⟨kk+1,ν,za93,⟨za88⟩,⟨za43⟩,⟨DN.out.2⟩,HS,⟨DN.out.1⟩,HP,HB⟩
       ·have hd2:decide (p < kk)=false:=decide_eq_false hpk
        clear hpk
        go_wp2
        go_roundg k1
        case measure=>omega
        case rel=>exact ⟨kk+1,ν,za93,⟨za88⟩,⟨za43⟩,⟨DN.out.2⟩,HS,⟨DN.out.1⟩,HP,HB⟩
      ·by_cases hpk:p < kk
       ·have hd2:decide (p < kk)=true:=decide_eq_true hpk
        have HPK:=zk hpk
        have hp9:p≤401:=by omega
        have HGq:Aside0 (Gs L T ν lo q):=⟨fun q' i' j' h1 h2 h3 h4=>HG.out q' i' j' h1 (by omega) h3 h4 (fun e=>by omega)⟩
        have HNO:=zk hno
        have HIK:=zk hik
        have HV2:=zk hv
        have c3:=HS.out.m2 Hq.out Hi.out (show p < L by have:=HPK.out;have:=HK2.out;omega)
        have q4:=eq_true (show p < L by have:=HPK.out;have:=HK2.out;omega)
        rw [HE.out p HR.out.1 hpk] at c3
        rw [hv] at c2
        clear hv hno hik hpk DONE
        obtain ⟨k2,rfl⟩:∃ k2,gk=k2+1:=⟨gk - 1,by have:=HQ2.out;have:=HPK.out;omega⟩
        cases hv1:mt s (.star t) i p
        ·rw [hv1,tv_false] at c3
         go_wp2
         go_roundg k2
         case measure=>omega
         case rel=>exact ⟨p+1,ν,za93,⟨by have:=HQ2.out;omega⟩,⟨by have:=HR.out;omega,by have:=HPK.out;omega⟩,HE,HS,HG,HP,⟨.inr ⟨HV2.out,HIK.out,fun p' h1 h2=>by
           by_cases e:p'=p
           ·rw [e,hv1];rfl
           ·exact HNO.out p' h1 (by omega)⟩⟩,HB⟩
        ·rw [hv1,tv_true] at c3
         have y0:=HS.out.cell_ HST.out X0.out
         have a0:=HAC.out _ _ HS.out
         cases hv2:mt s t p kk
         ·go_wp2_with (go_at_call 104;(with_reducible refine (HX.out p kk ν _ HR.out.2 HK2.out HS.out HGq.out HB.out).mono ?_);rintro e w7 ⟨he,m7,S7,G7,SS7,B7⟩;rw [hv2] at he;subst he;have M7:=zk S7;have Q7:=zk B7;have V7:=zk (show (m7 q i).getD kk 0=2 by rw [SS7 q i kk za55 HK1.out HK2.out,HV2.out]);have E7:Aside0 (∀ k,i≤k→k < kk→(m7 q i).getD k 0=tv (mt s (.star t) i k)):=⟨fun k h1 h2=>by rw [SS7 q i k za55 h1 za91];exact HE.out k h1 h2⟩;have N7:Aside0 (∀ q' i' j',lo≤q'→q' < q+1→i'≤j'→j' < L→¬ (q'=q∧i'=i∧j'=kk)→(m7 q' i').getD j' 0=0∨(m7 q' i').getD j' 0=if T q' i' j'=true then 1 else 2):=⟨fun q' i' j' h1 h2 h3 h4 h5=>by by_cases e:q' < a+1;exact G7 q' i' j' h1 e h3 h4;rw [SS7 q' i' j' (by omega) h3 h4];exact HG.out q' i' j' h1 h2 h3 h4 h5⟩;have P7:=zk (Ss.next HP.out SS7 za55 za55);clear S7 G7 SS7 B7 z0 z1 z2 z3 f0 f1 f2 f3 c0 c1 c2 c3 y0 a0)
          go_roundg k2
          case measure=>omega
          case rel=>exact ⟨p+1,m7,za93,⟨by have:=HQ2.out;omega⟩,⟨by have:=HR.out;omega,by have:=HPK.out;omega⟩,E7,M7,N7,P7,⟨.inr ⟨V7.out,HIK.out,fun p' h1 h2=>by
            by_cases e:p'=p
            ·rw [e,hv1,hv2];rfl
            ·exact HNO.out p' h1 (by omega)⟩⟩,Q7⟩
         ·go_wp2_with (go_at_call 104;(with_reducible refine (HX.out p kk ν _ HR.out.2 HK2.out HS.out HGq.out HB.out).mono ?_);rintro e w7 ⟨he,m7,S7,G7,SS7,B7⟩;rw [hv2] at he;subst he;have M7:=zk S7;have Q7:=zk B7;have V7:=zk (show (m7 q i).getD kk 0=2 by rw [SS7 q i kk za55 HK1.out HK2.out,HV2.out]);have E7:Aside0 (∀ k,i≤k→k < kk→(m7 q i).getD k 0=tv (mt s (.star t) i k)):=⟨fun k h1 h2=>by rw [SS7 q i k za55 h1 za91];exact HE.out k h1 h2⟩;have N7:Aside0 (∀ q' i' j',lo≤q'→q' < q+1→i'≤j'→j' < L→¬ (q'=q∧i'=i∧j'=kk)→(m7 q' i').getD j' 0=0∨(m7 q' i').getD j' 0=if T q' i' j'=true then 1 else 2):=⟨fun q' i' j' h1 h2 h3 h4 h5=>by by_cases e:q' < a+1;exact G7 q' i' j' h1 e h3 h4;rw [SS7 q' i' j' (by omega) h3 h4];exact HG.out q' i' j' h1 h2 h3 h4 h5⟩;have P7:=zk (Ss.next HP.out SS7 za55 za55);clear S7 G7 SS7 B7 z0 z1 z2 z3 f0 f1 f2 f3 c0 c1 c2 c3 y0 a0;obtain ⟨z0,z1,z2,z3,f0,f1,f2,f3⟩:=blk4 (M7.out.z ok);have c0:=M7.out.m0 ok Hq.out;have c1:=M7.out.m1 ok Hq.out Hi.out;have c2:=M7.out.m2 Hq.out Hi.out HK2.out;rw [V7.out] at c2;have d2:=M7.out.fr Hq.out Hi.out kk)
          go_roundg k2
          case measure=>omega
          case rel =>
           have hlk:kk < (m7 q i).length:=by rw [(M7.out.rw q i Hq.out Hi.out).2];exact HK2.out
           exact ⟨p+1,upd m7 q i ((m7 q i).set kk 1),za93,⟨by have:=HQ2.out;omega⟩,⟨by have:=HR.out;omega,by have:=HPK.out;omega⟩,⟨fun k h1 h2=>by rw [upd_self,getD_ne _ (by omega)];exact E7.out k h1 h2⟩,⟨M7.out.put ok Hq.out Hi.out kk 1⟩,⟨fun q' i' j' h1 h2 h3 h4 h5=>by
            by_cases e:q'=q∧i'=i
            ·rw [e.1,e.2,upd_self,getD_ne _ (fun e'=>h5 ⟨e.1,e.2,e'.symm⟩)]
             have:=N7.out q' i' j' h1 h2 h3 h4 h5
             rw [e.1,e.2] at this
             exact this
            ·rw [upd_ne _ _ e];exact N7.out q' i' j' h1 h2 h3 h4 h5⟩,⟨fun q' i' j' h1 h2 h3=>by
            rw [upd_ne _ _ (fun e=>h1 za55)];exact P7.out q' i' j' h1 h2 h3⟩,⟨.inl ⟨by rw [upd_self,getD_lt hlk],by
            rw [star_last s t i kk HIK.out]
            exact (exIn_iff _ _ _).2 ⟨p,HR.out.1,by have:=HPK.out;omega,by rw [hv1,hv2];rfl⟩⟩⟩,⟨Q7.out.setCell (ok.lo q i Hq.out Hi.out) _⟩⟩
       ·have hpe:p=kk:=by have:=HR.out;omega
        have hd2:decide (p < kk)=false:=decide_eq_false hpk
        have DN:=zk (DONE.out false (by rw [hv];rfl) (by
         rw [star_last s t i kk hik,Bool.eq_false_iff]
         intro h
         obtain ⟨p',h1,h2,h3⟩:=(exIn_iff _ _ _).1 h
         rw [hno p' h1 (by omega)] at h3
         exact absurd h3 (by simp)))
        clear hv hno hpk DONE c2 hpe
        go_wp2
        go_roundg k1
        case measure=>omega
        case rel=>exact ⟨kk+1,ν,za93,⟨za88⟩,⟨za43⟩,⟨DN.out.2⟩,HS,⟨DN.out.1⟩,HP,HB⟩
  ·have hd:decide (kk≤s.size)=false:=decide_eq_false hle
   have hkL:kk=L:=by have:=HQ.out;omega
   have HKL:=zk hkL
   clear hle hkL
   go_wp2
   go_end0
   refine ⟨μ,rfl,HS.out,HG.out,HP.out,fun k h1 h2=>?_,HB.out⟩
   rw [HE.out k h1 (by have:=HKL.out;omega),HT.out]
   rfl
end
def FT (l:Lay) (s:ByteArray) (T:Nat→Nat→Nat→Bool):Rx→Nat→Nat→Prop
 | .none,p,lo=>lo=p∧(∀ i j,T p i j=mt s .none i j)∧l.kd p=1
 | .empty,p,lo=>lo=p∧(∀ i j,T p i j=mt s .empty i j)∧l.kd p=2
 | .any,p,lo=>lo=p∧(∀ i j,T p i j=mt s .any i j)∧l.kd p=4
 | .letter x,p,lo=>lo=p∧(∀ i j,T p i j=mt s (.letter x) i j)∧l.kd p=3∧l.lt p=x
 | .not t,p,lo=>lo≤p∧(∀ i j,T p i j=mt s (.not t) i j)∧l.kd p=9∧∃ a:Nat,l.ar p = [(a:Int)]∧a+1=p∧FT l s T t a lo
 | .star t,p,lo=>lo≤p∧(∀ i j,T p i j=mt s (.star t) i j)∧l.kd p=8∧∃ a:Nat,l.ar p = [(a:Int)]∧a+1=p∧FT l s T t a lo
 | .cat t u,p,lo=>lo≤p∧(∀ i j,T p i j=mt s (.cat t u) i j)∧l.kd p=5∧∃ a b:Nat,l.ar p = [(a:Int),(b:Int)]∧b+1=p∧FT l s T t a lo∧FT l s T u b (a+1)
 | .or t u,p,lo=>lo≤p∧(∀ i j,T p i j=mt s (.or t u) i j)∧l.kd p=6∧∃ a b:Nat,l.ar p = [(a:Int),(b:Int)]∧b+1=p∧FT l s T t a lo∧FT l s T u b (a+1)
 | .and t u,p,lo=>lo≤p∧(∀ i j,T p i j=mt s (.and t u) i j)∧l.kd p=7∧∃ a b:Nat,l.ar p = [(a:Int),(b:Int)]∧b+1=p∧FT l s T t a lo∧FT l s T u b (a+1)
theorem FT.le {l:Lay} {s:ByteArray} {T:Nat→Nat→Nat→Bool} {t:Rx} {p lo:Nat} (h:FT l s T t p lo):lo≤p:=by
 cases t <;> first|exact Nat.le_of_eq h.1|exact h.1
theorem FT.here {l:Lay} {s:ByteArray} {T:Nat→Nat→Nat→Bool} {t:Rx} {p lo:Nat} (h:FT l s T t p lo):∀ i j,T p i j=mt s t i j:=by
 cases t <;> exact h.2.1
section
variable (l : Lay) (w0 W1 : World) (g : Nat) (s : ByteArray) (L : Nat) (ok : LayOk l w0 W1 g s L) (hsL : s.size + 1 = L) (hL : L ≤ 401) (T : Nat → Nat → Nat → Bool)
include ok hsL hL
theorem ic_of (t:Rx) (p lo:Nat) (hp:p < l.N) (hlo:lo≤p) (hT:∀ i j,T p i j=mt s t i j) (hk:(l.kd p == 8)=false)
  (hf:∀ (i j:Nat) (m:Nat→Nat→List Int) (W:World),i≤j→j < L→SSt l W1 L m W→Gs L T m lo p→Below w0.heap.size w0 W→Calls Tryz.prog 109 #[.pointer (some ⟨g,0,none⟩),.int .i64 (p:Int),.int .i64 (i:Int),.int .i64 (j:Int)] W (SPost l w0 W1 L T m lo p (.bool (mt s t i j)))) :
  IC l w0 W1 g s L T t p lo:=by
 intro i j pv iv jv m W e1 e2 e3 hij hj hS hG hB
 subst e1 e2 e3
 by_cases hv:(m p i).getD j 0=0
 ·exact is_find l w0 W1 g s L ok T lo p i j hlo hp hij hj _ (hT i j) m W hS hB hk hG hv fun m' W' h1 h2 h3=>hf i j m' W' hij hj h1 h2 h3
 ·exact is_known l w0 W1 g s L ok T lo p i j hlo hp hij hj _ (hT i j) m W hS hB hG hv
theorem is_all (t:Rx):∀ p lo,p < l.N→FT l s T t p lo→IC l w0 W1 g s L T t p lo:=by
 induction t with
 | none =>
  intro p lo hp h
  exact ic_of l w0 W1 g s L ok hsL hL T .none p lo hp h.le h.here (by rw [h.2.2];rfl) fun i j m W hij hj hS hG hB=>sfind_leaf l w0 W1 g s L ok hsL hL T lo p i j h.le hp hij hj m W hS hB hG _ (.inl ⟨h.2.2,rfl⟩)
 | empty =>
  intro p lo hp h
  exact ic_of l w0 W1 g s L ok hsL hL T .empty p lo hp h.le h.here (by rw [h.2.2];rfl) fun i j m W hij hj hS hG hB=>sfind_leaf l w0 W1 g s L ok hsL hL T lo p i j h.le hp hij hj m W hS hB hG _ (.inr (.inl ⟨h.2.2,rfl⟩))
 | any =>
  intro p lo hp h
  exact ic_of l w0 W1 g s L ok hsL hL T .any p lo hp h.le h.here (by rw [h.2.2];rfl) fun i j m W hij hj hS hG hB=>sfind_leaf l w0 W1 g s L ok hsL hL T lo p i j h.le hp hij hj m W hS hB hG _ (.inr (.inr (.inl ⟨h.2.2,rfl⟩)))
 | letter x =>
  intro p lo hp h
  exact ic_of l w0 W1 g s L ok hsL hL T (.letter x) p lo hp h.le h.here (by rw [h.2.2.1];rfl) fun i j m W hij hj hS hG hB=>sfind_leaf l w0 W1 g s L ok hsL hL T lo p i j h.le hp hij hj m W hS hB hG _ (.inr (.inr (.inr ⟨h.2.2.1,by rw [h.2.2.2];rfl⟩)))
 | cat t u iht ihu =>
  intro p lo hp h
  obtain ⟨h1,h2,h3,a,b,har,hb,ht,hu⟩:=id h
  have l1:=ht.le
  have l2:=hu.le
  exact ic_of l w0 W1 g s L ok hsL hL T (.cat t u) p lo hp h1 h2 (by rw [h3];rfl) fun i j m W hij hj hS hG hB=>sfind_cat l w0 W1 g s L ok hsL hL T lo p i j h1 hp hij hj m W hS hB hG t u a b h3 har l1 (by omega) hb (iht a lo (by omega) ht) (ihu b (a+1) (by omega) hu)
 | or t u iht ihu =>
  intro p lo hp h
  obtain ⟨h1,h2,h3,a,b,har,hb,ht,hu⟩:=id h
  have l1:=ht.le
  have l2:=hu.le
  exact ic_of l w0 W1 g s L ok hsL hL T (.or t u) p lo hp h1 h2 (by rw [h3];rfl) fun i j m W hij hj hS hG hB=>sfind_or l w0 W1 g s L ok hsL hL T lo p i j h1 hp hij hj m W hS hB hG t u a b h3 har l1 (by omega) hb (iht a lo (by omega) ht) (ihu b (a+1) (by omega) hu)
 | and t u iht ihu =>
  intro p lo hp h
  obtain ⟨h1,h2,h3,a,b,har,hb,ht,hu⟩:=id h
  have l1:=ht.le
  have l2:=hu.le
  exact ic_of l w0 W1 g s L ok hsL hL T (.and t u) p lo hp h1 h2 (by rw [h3];rfl) fun i j m W hij hj hS hG hB=>sfind_and l w0 W1 g s L ok hsL hL T lo p i j h1 hp hij hj m W hS hB hG t u a b h3 har l1 (by omega) hb (iht a lo (by omega) ht) (ihu b (a+1) (by omega) hu)
 | not t iht =>
  intro p lo hp h
  obtain ⟨h1,h2,h3,a,har,hb,ht⟩:=id h
  exact ic_of l w0 W1 g s L ok hsL hL T (.not t) p lo hp h1 h2 (by rw [h3];rfl) fun i j m W hij hj hS hG hB=>sfind_not l w0 W1 g s L ok hsL hL T lo p i j h1 hp hij hj m W hS hB hG t a h3 har ht.le hb (iht a lo (by omega) ht)
 | star t iht =>
  intro p lo hp h
  obtain ⟨h1,h2,h3,a,har,hb,ht⟩:=id h
  intro i j pv iv jv m W e1 e2 e3 hij hj hS hG hB
  subst e1 e2 e3
  by_cases hv:(m p i).getD j 0=0
  ·exact is_star l w0 W1 g s L ok T lo p i j h1 hp hij hj _ (h2 i j) m W hS hB (by rw [h3];rfl) hG hv fun m' W' h4 h5 h6=>star_calls l w0 W1 g s L ok hsL hL T lo p i h1 hp (by omega) t a har ht.le hb (iht a lo (by omega) ht) h2 m' W' h4 h6 h5
  ·exact is_known l w0 W1 g s L ok T lo p i j h1 hp hij hj _ (h2 i j) m W hS hB hG hv
end
end Go.Proofs.YtcbjhfoeecfcoaaGreat.Ext
-- ALSO loop.example/g00582/impl.size
namespace Go.Proofs.YtcbjhfoeecfcoaaGreat.Ext
open Go Go.RowKit YtcbjhfoeecfcoaaGreatW.PrintWords YtcbjhfoeecfcoaaGreatW.PrintLast YtcbjhfoeecfcoaaGreat.A
def ix (n a i j:Nat):Nat:=(a * n+i) * n+j
theorem ix_inj {n a i j a' i' j':Nat} (hi:i < n) (hj:j < n) (hi':i' < n) (hj':j' < n) (h:ix n a i j=ix n a' i' j'):a=a'∧i=i'∧j=j':=by
 unfold ix at h
 have q1:((a * n+i) * n+j) / n=a * n+i:=by rw [Nat.mul_comm,Nat.mul_add_div (by omega),Nat.div_eq_of_lt hj,Nat.add_zero]
 have q2:((a' * n+i') * n+j') / n=a' * n+i':=by rw [Nat.mul_comm,Nat.mul_add_div (by omega),Nat.div_eq_of_lt hj',Nat.add_zero]
 have q3:(a * n+i) / n=a:=by rw [Nat.mul_comm,Nat.mul_add_div (by omega),Nat.div_eq_of_lt hi,Nat.add_zero]
 have q4:(a' * n+i') / n=a':=by rw [Nat.mul_comm,Nat.mul_add_div (by omega),Nat.div_eq_of_lt hi',Nat.add_zero]
 have e1:a * n+i=a' * n+i':=by rw [← q1,← q2,h]
 have e2:a=a':=by rw [← q3,← q4,e1]
 subst e2
 have e3:i=i':=by omega
 subst e3
 exact ⟨rfl,rfl,by omega⟩
theorem ix_lt {n a i j z:Nat} (ha:a < z) (hi:i < n) (hj:j < n):ix n a i j < z * n * n:=by
 unfold ix
 have h1:a * n+i+1≤z * n:=by
  have:(a+1) * n≤z * n:=Nat.mul_le_mul_right n ha
  rw [Nat.add_mul] at this
  omega
 have h2:(a * n+i+1) * n≤z * n * n:=Nat.mul_le_mul_right n h1
 rw [Nat.add_mul (a * n+i) 1 n] at h2
 omega
structure MSt (g b : Nat) (s : ByteArray) (n : Nat) (m : List Int) (W : World) : Prop where
 hm:W.heap[g]? = some (.cells #[.string s,.int .i64 (n:Int),.slice (some ⟨b,0,none⟩) m.length m.length] 94 (0,0))
 hb:W.heap[b]? = some (.cells (nums .i8 m).toArray 106 (0,0))
def Rg0:=Nat→Nat→Nat→Prop
def RgM (id sz len:Nat):Rg0:=fun a i j=>id≤a∧a < id+sz∧(a=id→j - i≤len)
def RgF (id sz len:Nat):Rg0:=fun a i j=>id≤a∧a < id+sz∧(a=id→j - i < len)
def Gd (n:Nat) (T:Nat→Nat→Nat→Bool) (m:List Int) (R:Rg0):Prop :=
 ∀ a i j,i≤j→j < n→R a i j→m.getD (ix n a i j) 0=0∨m.getD (ix n a i j) 0=if T a i j=true then 2 else 1
def Sm3 (n:Nat) (m m':List Int) (R:Rg0):Prop:=∀ a i j,i≤j→j < n→¬ R a i j→m'.getD (ix n a i j) 0=m.getD (ix n a i j) 0
theorem Gd.sub {n:Nat} {T:Nat→Nat→Nat→Bool} {m:List Int} {R R':Rg0} (h:Gd n T m R) (hs:∀ a i j,R' a i j→R a i j):Gd n T m R' :=
 fun a i j h1 h2 h3=>h a i j h1 h2 (hs _ _ _ h3)
theorem Gd.next {n:Nat} {T:Nat→Nat→Nat→Bool} {m m':List Int} {R R':Rg0} (h:Gd n T m R) (h':Gd n T m' R') (hs:Sm3 n m m' R'):Gd n T m' R:=by
 intro a i j h1 h2 h3
 by_cases h4:R' a i j
 ·exact h' a i j h1 h2 h4
 ·rw [hs a i j h1 h2 h4];exact h a i j h1 h2 h3
theorem Sm3.next {n:Nat} {m m' m2:List Int} {R R':Rg0} (h:Sm3 n m m' R) (h':Sm3 n m' m2 R') (hs:∀ a i j,R' a i j→R a i j):Sm3 n m m2 R :=
 fun a i j h1 h2 h3=>(h' a i j h1 h2 (fun h4=>h3 (hs _ _ _ h4))).trans (h a i j h1 h2 h3)
theorem Sm3.refl (n:Nat) (m:List Int) (R:Rg0):Sm3 n m m R:=fun _ _ _ _ _ _=>rfl
def MPost (w0 W:World) (g b:Nat) (s:ByteArray) (n:Nat) (T:Nat→Nat→Nat→Bool) (m:List Int) (R:Rg0) (r:Bool) (e:Ending) (W':World):Prop :=
 e = .returned (.bool r)∧∃ m':List Int,m'.length=m.length∧MSt g b s n m' W'∧Gd n T m' R∧Sm3 n m m' R∧KeepBut W W' b none∧Below w0.heap.size w0 W'
theorem MSt.cell {g b:Nat} {s:ByteArray} {n:Nat} {m:List Int} {W:World} (h:MSt g b s n m W) (k:Nat) (hk:k < m.length):W.cell? ⟨b,k,none⟩=some (.int .i8 (m.getD k 0)):=by
 rw [blk_cell h.hb]
 simp [nums,hk]
theorem MSt.below {g b:Nat} {s:ByteArray} {n:Nat} {m:List Int} {W W':World} (h:MSt g b s n m W) (hb:Below W.heap.size W W'):MSt g b s n m W':=⟨blk_below h.hm hb,blk_below h.hb hb⟩
theorem getD_set_ne {l:List Int} {i j:Nat} (v d:Int) (h:i ≠ j):(l.set i v).getD j d=l.getD j d:=by
 rw [List.getD_eq_getElem?_getD,List.getD_eq_getElem?_getD,List.getElem?_set_ne h]
theorem getD_set_eq {l:List Int} {i:Nat} (v d:Int) (h:i < l.length):(l.set i v).getD i d=v:=by
 rw [List.getD_eq_getElem?_getD,List.getElem?_set_self h];rfl
theorem MSt.put {g b:Nat} {s:ByteArray} {n:Nat} {m:List Int} {W:World} (h:MSt g b s n m W) (hgb:g ≠ b) (k:Nat) (v:Int):MSt g b s n (m.set k v) (W.setCell ⟨b,k,none⟩ (.int .i8 v)):=by
 refine ⟨?_,?_⟩
 ·rw [List.length_set]
  exact blk_far h.hm hgb _
 ·refine blk_put h.hb k _ ?_
  simp [nums,List.map_set]
theorem wrap_nat (k:Nat) (h:k≤9223372036854775807):wrap64 (k:Int)=k:=by unfold wrap64;omega
theorem iwrap_nat (k:Nat) (h:k≤9223372036854775807):IntKind.i64.wrap (k:Int)=k:=by rw [i64_w];exact wrap_nat k h
theorem ix_steps (n id i j m z:Nat) (hix:ix n id i j < m) (hl:m=z * n * n) (hz:z≤16) (hn:n≤401) :
  IntKind.i64.wrap ((id:Int) * (n:Int))=(id:Int) * (n:Int)∧wrap64 ((id:Int) * (n:Int)+(i:Int))=(id:Int) * (n:Int)+(i:Int) ∧
  wrap64 (((id:Int) * (n:Int)+(i:Int)) * (n:Int))=((id:Int) * (n:Int)+(i:Int)) * (n:Int)∧wrap64 (((id:Int) * (n:Int)+(i:Int)) * (n:Int)+(j:Int))=((ix n id i j:Nat):Int):=by
 have hzn:z * n * n≤16 * 401 * 401:=Nat.mul_le_mul (Nat.mul_le_mul hz hn) hn
 have c0:((id * n:Nat):Int)=(id:Int) * (n:Int):=Int.natCast_mul ..
 have c1:(((id * n+i) * n:Nat):Int)=((id:Int) * (n:Int)+(i:Int)) * (n:Int):=by rw [Int.natCast_mul,Int.natCast_add,c0]
 have c2:((ix n id i j:Nat):Int)=((id:Int) * (n:Int)+(i:Int)) * (n:Int)+(j:Int):=by unfold ix;rw [Int.natCast_add,c1]
 have e3:ix n id i j=(id * n+i) * n+j:=rfl
 have h4:ix n id i j≤3000000:=by omega
 generalize hk:ix n id i j=k at *
 have h3:(id * n+i) * n≤3000000:=by omega
 have hn0:0 < n:=by
  rcases Nat.eq_zero_or_pos n with h|h
  ·subst h;simp at hl;omega
  ·exact h
 have h2:id * n+i≤3000000:=Nat.le_trans (Nat.le_mul_of_pos_right _ hn0) h3
 refine ⟨?_,?_,?_,?_⟩
 ·rw [← c0];exact iwrap_nat _ (by omega)
 ·rw [← c0,← Int.natCast_add];exact wrap_nat _ (by omega)
 ·rw [← c1];exact wrap_nat _ (by omega)
 ·rw [← c2];exact wrap_nat _ (by omega)
set_option maxHeartbeats 4000000 in
theorem match_of_find (w0:World) (g b:Nat) (hgb:g ≠ b) (hg:w0.heap.size≤g) (hb:w0.heap.size≤b) (s:ByteArray) (n:Nat) (hn:n≤401) (z:Nat) (hz:z≤16) (T:Nat→Nat→Nat→Bool)
  (x:S54) (A:Option Addr) (c:Nat) (id sz i j:Nat) (hid:id < z) (hs0:0 < sz) (hij:i≤j) (hj:j < n) (r:Bool) (hT:T id i j=r)
  (hf:∀ (m:List Int) (W:World),m.length=z * n * n→MSt g b s n m W→Gd n T m (RgF id sz (j - i))→Below w0.heap.size w0 W →
   Calls Tryz.prog 102 #[.pointer (some ⟨g,0,none⟩),.agg #[.int .i64 x.f0,.string x.f1,.slice A x.f2.length c],.int .i64 (id:Int),.int .i64 (i:Int),.int .i64 (j:Int)] W (MPost w0 W g b s n T m (RgF id sz (j - i)) r))
  (m:List Int) (W:World) (hl:m.length=z * n * n) (hM:MSt g b s n m W) (hG:Gd n T m (RgM id sz (j - i))) (hB:Below w0.heap.size w0 W) :
  Calls Tryz.prog 85 #[.pointer (some ⟨g,0,none⟩),.agg #[.int .i64 x.f0,.string x.f1,.slice A x.f2.length c],.int .i64 (id:Int),.int .i64 (i:Int),.int .i64 (j:Int)] W (MPost w0 W g b s n T m (RgM id sz (j - i)) r):=by
 have hix:ix n id i j < m.length:=by rw [hl];exact ix_lt hid (by omega) hj
 obtain ⟨v1,v2,v3,v4⟩:=ix_steps n id i j m.length z hix hl hz hn
 have HM:=zk hM
 have HB:=zk hB
 have HG:=zk hG
 have HF:=zk hf
 have HX:=zk hix
 have HL:=zk hl
 have HT:=zk hT
 clear hM hB hG hf hl hT
 go_enter Tryz.func85,Tryz.ntmps85
 go_upto_region 1 with ((with_reducible refine gate_dst (N:=6) rfl ?_);refine zE (cs:=#[.int .i64 x.f0,.string x.f1,.slice A x.f2.length c]) (t:=54) ?_;intro gx hgx w3 hbox hb3;have M3:=zk (HM.out.below hb3);have K3:=zk (KeepBut.of_below hb3 b none);have B3:=zk (below_step HB.out hb3:Below w0.heap.size w0 w3);have X3:=zk hbox;have G3:=zk (show W.heap.size≤gx by omega);have N3:=zk (show b < W.heap.size from blk_lt HM.out.hb);clear hb3 hbox hgx)
 go_cut [11] (fun v11 wc=>v11 = .int .i64 ((ix n id i j:Nat):Int)∧Aside0 (MSt g b s n m wc)∧Aside0 (KeepBut W wc b none)∧Aside0 (Below w0.heap.size w0 wc)∧Aside0 (wc.heap[gx]? = some (.cells #[.int .i64 x.f0,.string x.f1,.slice A x.f2.length c] 54 (0,0))))
 case first =>
  obtain ⟨z0,z1,z2,f0,f1,f2⟩:=blk3 M3.out.hm
  go_quiet (fail)
  try go_wp2
  go_meet
  case rel=>exact ⟨by simp only [v1,v2,v3,v4],⟨M3.out.hm,M3.out.hb⟩,⟨K3.out⟩,⟨pw_below_drewN B3.out _⟩,⟨X3.out⟩⟩
 case rest =>
  clear M3 K3 B3 X3 HM HB v1 v2 v3 v4
  obtain ⟨rfl,HM,HK,HB,HX3⟩:=hcut
  obtain ⟨z0,z1,z2,f0,f1,f2⟩:=blk3 HM.out.hm
  have zc:=HM.out.cell _ HX.out
  have q1:=eq_true hix
  clear hix
  by_cases hv:m.getD (ix n id i j) 0=0
  ·have hgx:gx ≠ b:=by have:=G3.out;have:=N3.out;omega
   have hgx':b ≠ gx:=fun h=>hgx h.symm
   have hgb':b ≠ g:=fun h=>hgb h.symm
   have HS1:=zk (show (m.set (ix n id i j) 1).length=z * n * n by rw [List.length_set];exact HL.out)
   have HG1:Aside0 (Gd n T (m.set (ix n id i j) 1) (RgF id sz (j - i))):=⟨by
    intro a' i' j' h1 h2 h3
    have hne:ix n id i j ≠ ix n a' i' j':=by
     intro he
     obtain ⟨rfl,rfl,rfl⟩:=ix_inj (by omega) hj (by omega) h2 he
     have:=h3.2.2 rfl
     omega
    rw [getD_set_ne _ _ hne]
    exact HG.out a' i' j' h1 h2 ⟨h3.1,h3.2.1,fun e=>by have:=h3.2.2 e;omega⟩⟩
   have HN:Aside0 (¬ RgF id sz (j - i) id i j):=⟨fun h=>by have:=h.2.2 rfl;omega⟩
   have HI:Aside0 (∀ (m5:List Int) (v:Int),m5.length=m.length→(v=if r=true then 2 else 1)→m5.getD (ix n id i j) 0=v→Gd n T m5 (RgF id sz (j - i))→(∀ a' i' j',i'≤j'→j' < n→ix n id i j ≠ ix n a' i' j'→¬ RgF id sz (j - i) a' i' j'→m5.getD (ix n a' i' j') 0=(m.set (ix n id i j) 1).getD (ix n a' i' j') 0)→Gd n T m5 (RgM id sz (j - i))∧Sm3 n m m5 (RgM id sz (j - i))):=⟨by
    intro m5 v h5 hv5 h0 hG5 hS5
    refine ⟨fun a' i' j' h1 h2 h3=>?_,fun a' i' j' h1 h2 h3=>?_⟩
    ·by_cases he:ix n id i j=ix n a' i' j'
     ·obtain ⟨rfl,rfl,rfl⟩:=ix_inj (by omega) hj (by omega) h2 he
      rw [h0,hv5,HT.out]
      exact .inr rfl
     ·by_cases h4:RgF id sz (j - i) a' i' j'
      ·exact hG5 a' i' j' h1 h2 h4
      ·rw [hS5 a' i' j' h1 h2 he h4,getD_set_ne _ _ he]
       exact HG.out a' i' j' h1 h2 h3
    ·have he:ix n id i j ≠ ix n a' i' j':=by
      intro he
      obtain ⟨rfl,rfl,rfl⟩:=ix_inj (by omega) hj (by omega) h2 he
      exact h3 ⟨Nat.le_refl _,by omega,fun _=>Nat.le_refl _⟩
     have h4:¬ RgF id sz (j - i) a' i' j':=fun h=>h3 ⟨h.1,h.2.1,fun e=>by have:=h.2.2 e;omega⟩
     rw [hS5 a' i' j' h1 h2 he h4,getD_set_ne _ _ he]⟩
   rw [hv] at zc
   clear hv
   have fc:=blk_frozen HM.out.hb (ix n id i j)
   obtain ⟨y0,y1,y2,g0,g1,g2⟩:=blk3 HX3.out
   cases r
   ·go_wp2_with (go_at_call 102;refine (HF.out (m.set (ix n id i j) 1) _ HS1.out (HM.out.put hgb _ 1) HG1.out (HB.out.setCell hb _)).mono ?_;rintro e w5 ⟨rfl,m5,hl5,M5,G5,S5,K5,B5⟩;have n0_:=zk hl5;have n1_:=zk G5;have n2_:=zk S5;have n3_:=zk K5;have n4_:=zk B5;have n5_:=zk M5;clear hl5 G5 S5 K5 B5 M5 z0 z1 z2 f0 f1 f2 zc fc y0 y1 y2 g0 g1 g2;obtain ⟨z0,z1,z2,f0,f1,f2⟩:=blk3 n5_.out.hm;have zc:=n5_.out.cell (ix n id i j) (by rw [n0_.out,List.length_set];exact HX.out);rw [n2_.out id i j hij hj HN.out,getD_set_eq _ _ HX.out] at zc;have q1:=eq_true (show ix n id i j < m5.length by rw [n0_.out,List.length_set];exact HX.out))
    go_ret
    have n6_:=HI.out m5 1 (by rw [n0_.out,List.length_set]) rfl (by rw [n2_.out id i j hij hj HN.out,getD_set_eq _ _ HX.out]) n1_.out (fun a' i' j' h1 h2 _ h3=>n2_.out a' i' j' h1 h2 h3)
    exact ⟨rfl,m5,by rw [n0_.out,List.length_set],n5_.out,n6_.1,n6_.2,(HK.out.set_ _ _).trans n3_.out (.inl rfl),n4_.out⟩
   ·go_wp2_with (go_at_call 102;refine (HF.out (m.set (ix n id i j) 1) _ HS1.out (HM.out.put hgb _ 1) HG1.out (HB.out.setCell hb _)).mono ?_;rintro e w5 ⟨rfl,m5,hl5,M5,G5,S5,K5,B5⟩;have n0_:=zk hl5;have n1_:=zk G5;have n2_:=zk S5;have n3_:=zk K5;have n4_:=zk B5;have n5_:=zk M5;clear hl5 G5 S5 K5 B5 M5 z0 z1 z2 f0 f1 f2 zc fc y0 y1 y2 g0 g1 g2;obtain ⟨z0,z1,z2,f0,f1,f2⟩:=blk3 n5_.out.hm;have zc:=n5_.out.cell (ix n id i j) (by rw [n0_.out,List.length_set];exact HX.out);rw [n2_.out id i j hij hj HN.out,getD_set_eq _ _ HX.out] at zc;have q1:=eq_true (show ix n id i j < m5.length by rw [n0_.out,List.length_set];exact HX.out);have fc:=blk_frozen n5_.out.hb (ix n id i j))
    go_ret
    have n6_:=HI.out (m5.set (ix n id i j) 2) 2 (by rw [List.length_set,n0_.out,List.length_set]) rfl (getD_set_eq _ _ (by rw [n0_.out,List.length_set];exact HX.out)) (fun a' i' j' h1 h2 h3=>by
     have hne:ix n id i j ≠ ix n a' i' j':=by
      intro he
      obtain ⟨rfl,rfl,rfl⟩:=ix_inj (by omega) hj (by omega) h2 he
      have:=h3.2.2 rfl
      omega
     rw [getD_set_ne _ _ hne]
     exact n1_.out a' i' j' h1 h2 h3) (fun a' i' j' h1 h2 he h3=>by rw [getD_set_ne _ _ he];exact n2_.out a' i' j' h1 h2 h3)
    exact ⟨rfl,_,by rw [List.length_set,n0_.out,List.length_set],n5_.out.put hgb _ 2,n6_.1,n6_.2,((HK.out.set_ _ _).trans n3_.out (.inl rfl)).set_ _ _,n4_.out.setCell hb _⟩
  ·have hr:m.getD (ix n id i j) 0=if r=true then 2 else 1:=by
    rcases HG.out id i j hij hj ⟨Nat.le_refl _,by omega,fun _=>Nat.le_refl _⟩ with h|h
    ·exact absurd h hv
    ·rw [h,HT.out]
   clear hv
   rw [hr] at zc
   clear hr
   cases r
   all_goals
    simp only [if_true,Bool.false_eq_true,if_false] at zc
    go_wp2
    go_ret
    exact ⟨rfl,m,rfl,HM.out,HG.out,Sm3.refl _ _ _,HK.out,HB.out⟩
theorem arg_at {w0 W:World} {A:Option Addr} {l:List S54} (hC:Kd.C k54 w0 A l.length l) (hB:Below w0.heap.size w0 W) (i:Nat) (hi:i < l.length) :
  ∃ ad A2 c2,A=some ad∧W.cell? (ad.add (i * 3))=some (.int .i64 l[i].f0)∧W.cell? ⟨(ad.add (i * 3)).block,(ad.add (i * 3)).off+1,none⟩=some (.string l[i].f1)∧W.cell? ⟨(ad.add (i * 3)).block,(ad.add (i * 3)).off+2,none⟩=some (.slice A2 l[i].f2.length c2)∧l[i].f2.length≤c2∧Kd.C k54 w0 A2 l[i].f2.length l[i].f2:=by
 obtain ⟨ad,A2,c2,e,h0,h1,h2,h3,h4⟩:=at_T54 hC (i:Int) (by omega) (by omega)
 have he:rd_T54 l (i:Int)=l[i]:=by simp [rd_T54,hi]
 rw [he] at h0 h1 h2 h3 h4
 rw [Int.toNat_natCast] at h0 h1 h2
 exact ⟨ad,A2,c2,e,(hB.cell (World.block_lt_of_cell? w0 _ h0)).trans h0,(hB.cell (World.block_lt_of_cell? w0 _ h1)).trans h1,(hB.cell (World.block_lt_of_cell? w0 _ h2)).trans h2,h3,h4⟩
theorem arg0_at {w0 W:World} {A:Option Addr} {x:S54} {l:List S54} (hC:Kd.C k54 w0 A (x :: l).length (x :: l)) (hB:Below w0.heap.size w0 W) :
  ∃ ad A2 c2,A=some ad∧W.cell? ad=some (.int .i64 x.f0)∧W.cell? ⟨ad.block,ad.off+1,none⟩=some (.string x.f1)∧W.cell? ⟨ad.block,ad.off+2,none⟩=some (.slice A2 x.f2.length c2)∧x.f2.length≤c2∧Kd.C k54 w0 A2 x.f2.length x.f2:=by
 obtain ⟨ad,A2,c2,e,h0,h1,h2,h3,h4⟩:=arg_at hC hB 0 (by simp)
 rw [Nat.zero_mul,Addr.add_zero'] at h0 h1 h2
 exact ⟨ad,A2,c2,e,h0,h1,h2,h3,h4⟩
theorem arg1_at {w0 W:World} {ad:Addr} {x y:S54} {l:List S54} (hC:Kd.C k54 w0 (some ad) (x :: y :: l).length (x :: y :: l)) (hB:Below w0.heap.size w0 W) :
  ∃ A2 c2,W.cell? ⟨ad.block,ad.off+3,none⟩=some (.int .i64 y.f0)∧W.cell? ⟨ad.block,ad.off+3+1,none⟩=some (.string y.f1)∧W.cell? ⟨ad.block,ad.off+3+2,none⟩=some (.slice A2 y.f2.length c2)∧y.f2.length≤c2∧Kd.C k54 w0 A2 y.f2.length y.f2:=by
 obtain ⟨ad',A2,c2,e,h0,h1,h2,h3,h4⟩:=arg_at hC hB 1 (by simp)
 obtain rfl:ad=ad':=by injection e
 have e3:ad.add (1 * 3)=⟨ad.block,ad.off+3,none⟩:=by simp [Addr.add]
 rw [e3] at h0 h1 h2
 exact ⟨A2,c2,h0,h1,h2,h3,h4⟩
def MC (w0:World) (g b:Nat) (s:ByteArray) (n z:Nat) (T:Nat→Nat→Nat→Bool) (t:Rx) (k:Int) (bs:ByteArray) (A:Option Addr) (q c:Nat) (id len:Nat):Prop :=
 ∀ (i j:Nat) (ids iv jv:Int) (m:List Int) (W:World),ids=(id:Int)→iv=(i:Int)→jv=(j:Int)→i≤j→j < n→j - i < len→m.length=z * n * n→MSt g b s n m W→Gd n T m (RgM id t.size (j - i))→Below w0.heap.size w0 W →
  Calls Tryz.prog 85 #[.pointer (some ⟨g,0,none⟩),.agg #[.int .i64 k,.string bs,.slice A q c],.int .i64 ids,.int .i64 iv,.int .i64 jv] W (MPost w0 W g b s n T m (RgM id t.size (j - i)) (mt s t i j))
section
variable (w0 : World) (g b : Nat) (hgb : g ≠ b) (hg : w0.heap.size ≤ g) (hb : w0.heap.size ≤ b) (s : ByteArray) (n : Nat) (hn : n ≤ 401) (hsn : s.size + 1 = n) (z : Nat) (hz : z ≤ 16) (T : Nat → Nat → Nat → Bool)
 (bs:ByteArray) (A:Option Addr) (c id i j:Nat) (hij:i≤j) (hj:j < n) (m:List Int) (W:World) (hl:m.length=z * n * n) (hM:MSt g b s n m W) (hB:Below w0.heap.size w0 W)
include hgb hg hb hn hsn hz hij hj hl hM hB
set_option maxHeartbeats 4000000 in
theorem find_leaf (k:Int) (r:Bool) (hk:(k=1∧r=false)∨(k=2∧r=(i == j))∨(k=4∧r=(j == i+1))∨(k=3∧r=((s.extract i j).toList == bs.toList))) (sz:Nat) (hG:Gd n T m (RgF id sz (j - i))) :
  Calls Tryz.prog 102 #[.pointer (some ⟨g,0,none⟩),.agg #[.int .i64 k,.string bs,.slice A 0 c],.int .i64 (id:Int),.int .i64 (i:Int),.int .i64 (j:Int)] W (MPost w0 W g b s n T m (RgF id sz (j - i)) r):=by
 have HM:=zk hM
 have HB:=zk hB
 have HG:=zk hG
 clear hM hB hG hl
 have e1:((i:Int) == (j:Int))=(i == j):=by rw [Bool.eq_iff_iff];simp;omega
 have e2:((j:Int) - (i:Int) == 1)=(j == i+1):=by rw [Bool.eq_iff_iff];simp;omega
 rcases hk with ⟨rfl,rfl⟩|⟨rfl,rfl⟩|⟨rfl,rfl⟩|⟨rfl,rfl⟩
 ·go_enter Tryz.func102,Tryz.ntmps102
  go_wp2_with ((with_reducible refine gate_dst (N:=6) rfl ?_);refine zE (cs:=#[.int .i64 1,.string bs,.slice A 0 c]) (t:=54) ?_;intro gx hgx w3 hbox hb3;have M3:=zk (HM.out.below hb3);have K3:=zk (KeepBut.of_below hb3 b none);have B3:=zk (below_step HB.out hb3:Below w0.heap.size w0 w3);have X3:=zk hbox;have G3:=zk (show W.heap.size≤gx by omega);have N3:=zk (show b < W.heap.size from blk_lt HM.out.hb);clear hb3 hbox hgx;obtain ⟨y0,y1,y2,g0,g1,g2⟩:=blk3 X3.out;obtain ⟨z0,z1,z2,f0,f1,f2⟩:=blk3 M3.out.hm)
  repeat (go_quiet (fail);try go_wp2)
  go_ret
  exact ⟨za74,m,rfl,⟨M3.out.hm,M3.out.hb⟩,HG.out,Sm3.refl _ _ _,⟨K3.out.1,K3.out.2⟩,za90⟩
 ·go_enter Tryz.func102,Tryz.ntmps102
  go_wp2_with ((with_reducible refine gate_dst (N:=6) rfl ?_);refine zE (cs:=#[.int .i64 2,.string bs,.slice A 0 c]) (t:=54) ?_;intro gx hgx w3 hbox hb3;have M3:=zk (HM.out.below hb3);have K3:=zk (KeepBut.of_below hb3 b none);have B3:=zk (below_step HB.out hb3:Below w0.heap.size w0 w3);have X3:=zk hbox;have G3:=zk (show W.heap.size≤gx by omega);have N3:=zk (show b < W.heap.size from blk_lt HM.out.hb);clear hb3 hbox hgx;obtain ⟨y0,y1,y2,g0,g1,g2⟩:=blk3 X3.out;obtain ⟨z0,z1,z2,f0,f1,f2⟩:=blk3 M3.out.hm)
  repeat (go_quiet (fail);try go_wp2)
  go_ret
  exact ⟨za74,m,rfl,⟨M3.out.hm,M3.out.hb⟩,HG.out,Sm3.refl _ _ _,⟨K3.out.1,K3.out.2⟩,za90⟩
 ·go_enter Tryz.func102,Tryz.ntmps102
  go_wp2_with ((with_reducible refine gate_dst (N:=6) rfl ?_);refine zE (cs:=#[.int .i64 4,.string bs,.slice A 0 c]) (t:=54) ?_;intro gx hgx w3 hbox hb3;have M3:=zk (HM.out.below hb3);have K3:=zk (KeepBut.of_below hb3 b none);have B3:=zk (below_step HB.out hb3:Below w0.heap.size w0 w3);have X3:=zk hbox;have G3:=zk (show W.heap.size≤gx by omega);have N3:=zk (show b < W.heap.size from blk_lt HM.out.hb);clear hb3 hbox hgx;obtain ⟨y0,y1,y2,g0,g1,g2⟩:=blk3 X3.out;obtain ⟨z0,z1,z2,f0,f1,f2⟩:=blk3 M3.out.hm)
  repeat (go_quiet (fail);try go_wp2)
  go_ret
  exact ⟨za74,m,rfl,⟨M3.out.hm,M3.out.hb⟩,HG.out,Sm3.refl _ _ _,⟨K3.out.1,K3.out.2⟩,za90⟩
 ·have hjs:=eq_true (show j≤s.size by omega)
  have hij2:=eq_true hij
  clear hij hj
  go_enter Tryz.func102,Tryz.ntmps102
  go_wp2_with ((with_reducible refine gate_dst (N:=6) rfl ?_);refine zE (cs:=#[.int .i64 3,.string bs,.slice A 0 c]) (t:=54) ?_;intro gx hgx w3 hbox hb3;have M3:=zk (HM.out.below hb3);have K3:=zk (KeepBut.of_below hb3 b none);have B3:=zk (below_step HB.out hb3:Below w0.heap.size w0 w3);have X3:=zk hbox;have G3:=zk (show W.heap.size≤gx by omega);have N3:=zk (show b < W.heap.size from blk_lt HM.out.hb);clear hb3 hbox hgx;obtain ⟨y0,y1,y2,g0,g1,g2⟩:=blk3 X3.out;obtain ⟨z0,z1,z2,f0,f1,f2⟩:=blk3 M3.out.hm)
  repeat (go_quiet (fail);try go_wp2)
  go_ret
  exact ⟨za74,m,rfl,⟨M3.out.hm,M3.out.hb⟩,HG.out,Sm3.refl _ _ _,⟨K3.out.1,K3.out.2⟩,za90⟩
end
end Go.Proofs.YtcbjhfoeecfcoaaGreat.Ext
namespace Go.Proofs.YtcbjhfoeecfcoaaGreat.Ext
open Go Go.RowKit YtcbjhfoeecfcoaaGreatW.PrintWords YtcbjhfoeecfcoaaGreatW.PrintLast
structure Nd where
 k:Int
 l:ByteArray
 sv:Value
 ars:List Int
 aA:Option Addr
 ac:Nat
 tb:Nat
 tc:Nat
 rows:List Nat
def Nd.av (x:Nd):Value:=.slice x.aA x.ars.length x.ac
def Nd.mv (L:Nat) (x:Nd):Value:=.slice (some ⟨x.tb,0,none⟩) L x.tc
def Nd.cells (x:Nd):List Value:=[.int .i64 x.k,.string x.l,x.sv]
def Nd.blks (x:Nd):List Nat:=x.av.ownBlock.toList ++ (x.tb :: x.rows)
structure NOk (W : World) (base L : Nat) (x : Nd) : Prop where
 a:W.ownsRow base 3 1 x.av x.ars.length (nums .i64 x.ars)
 t:W.ownsRow base 48 1 (x.mv L) L (x.rows.map fun b => .slice (some ⟨b,0,none⟩) L L)
 len:x.rows.length=L
 r:∀ b ∈ x.rows,base≤b∧W.heap[b]? = some (.cells (nums .i64 (List.replicate L 0)).toArray 3 (0,0))
theorem NOk.lt {W:World} {base L:Nat} {x:Nd} (h:NOk W base L x):∀ b ∈ x.blks,b < W.heap.size:=by
 intro b hb
 simp only [Nd.blks,List.mem_append,List.mem_cons,Option.mem_toList] at hb
 rcases hb with hb|rfl|hb
 ·exact (h.a.lt b hb).2
 ·exact (h.t.lt _ rfl).2
 ·exact blk_lt (h.r b hb).2
theorem NOk.move {W W':World} {base L:Nat} {x:Nd} (h:NOk W base L x) (hm:∀ b ∈ x.blks,W'.heap[b]? = W.heap[b]?):NOk W' base L x:=by
 refine ⟨own_move h.a fun k hk=>hm k ?_,own_move h.t fun k hk=>hm k ?_,h.len,fun b hb=>⟨(h.r b hb).1,(hm b ?_).trans (h.r b hb).2⟩⟩
 ·simp only [Nd.blks,List.mem_append,Option.mem_toList];exact .inl hk
 ·have:x.tb=k:=by simpa [Nd.mv,Value.ownBlock] using hk
  subst this
  simp [Nd.blks]
 ·simp [Nd.blks,hb]
def Apt (g:Nat) (vn va vm:Value) (b:Nat):Prop:=b ≠ g∧vn.ownBlock ≠ some b∧va.ownBlock ≠ some b∧vm.ownBlock ≠ some b
structure P3 (W : World) (base g : Nat) (s : ByteArray) (L : Nat) (nl al ml nodes : List Nd) (vn va vm : Value) : Prop where
 z:W.heap[g]? = some (.cells #[.string s,vn,va,vm] 111 (0,0))
 n:W.ownsRow base 54 3 vn nl.length (nl.flatMap Nd.cells)
 a:W.ownsRow base 48 1 va al.length (al.map Nd.av)
 m:W.ownsRow base 108 1 vm ml.length (ml.map (Nd.mv L))
 ok:∀ x ∈ nodes,NOk W base L x
 nd:(nodes.flatMap Nd.blks).Nodup
 sep:∀ b ∈ nodes.flatMap Nd.blks,Apt g vn va vm b
theorem P3.lt {W:World} {base g:Nat} {s:ByteArray} {L:Nat} {nl al ml nodes:List Nd} {vn va vm:Value} (h:P3 W base g s L nl al ml nodes vn va vm):∀ b ∈ nodes.flatMap Nd.blks,b < W.heap.size:=by
 intro b hb
 obtain ⟨x,hx,hb⟩:=List.mem_flatMap.1 hb
 exact (h.ok x hx).lt b hb
structure Step (g : Nat) (W : World) (vn va vm : Value) (W' : World) (vn' va' vm' : Value) : Prop where
 sz:W.heap.size≤W'.heap.size
 fr:∀ k,k < W.heap.size→Apt g vn va vm k→W'.heap[k]? = W.heap[k]?
 n:∀ k,vn'.ownBlock=some k→vn.ownBlock=some k∨W.heap.size≤k
 a:∀ k,va'.ownBlock=some k→va.ownBlock=some k∨W.heap.size≤k
 m:∀ k,vm'.ownBlock=some k→vm.ownBlock=some k∨W.heap.size≤k
section
variable {g : Nat} {W W' W2 : World} {vn va vm vn' va' vm' vn2 va2 vm2 : Value}
theorem Step.refl (g:Nat) (W:World) (vn va vm:Value):Step g W vn va vm W vn va vm:=⟨Nat.le_refl _,fun _ _ _=>rfl,fun _ h => .inl h,fun _ h => .inl h,fun _ h => .inl h⟩
theorem Step.apt (h:Step g W vn va vm W' vn' va' vm') {k:Nat} (hk:k < W.heap.size) (ha:Apt g vn va vm k):Apt g vn' va' vm' k :=
 ⟨ha.1,fun e=>by rcases h.n k e with h|h;exact ha.2.1 h;omega,fun e=>by rcases h.a k e with h|h;exact ha.2.2.1 h;omega,fun e=>by rcases h.m k e with h|h;exact ha.2.2.2 h;omega⟩
theorem Step.trans (h:Step g W vn va vm W' vn' va' vm') (h':Step g W' vn' va' vm' W2 vn2 va2 vm2):Step g W vn va vm W2 vn2 va2 vm2:=by
 refine ⟨Nat.le_trans h.sz h'.sz,fun k hk ha=>(h'.fr k (Nat.lt_of_lt_of_le hk h.sz) (h.apt hk ha)).trans (h.fr k hk ha),fun k e=>?_,fun k e=>?_,fun k e=>?_⟩
 ·rcases h'.n k e with h1|h1
  ·exact h.n k h1
  ·exact .inr (Nat.le_trans h.sz h1)
 ·rcases h'.a k e with h1|h1
  ·exact h.a k h1
  ·exact .inr (Nat.le_trans h.sz h1)
 ·rcases h'.m k e with h1|h1
  ·exact h.m k h1
  ·exact .inr (Nat.le_trans h.sz h1)
theorem Step.below (hb:Below W.heap.size W W'):Step g W vn va vm W' vn va vm:=⟨hb.size,fun k hk _=>hb.block k hk,fun _ h => .inl h,fun _ h => .inl h,fun _ h => .inl h⟩
theorem Step.row {v:Value} (hg:W.grownBy W' v.ownBlock) (hv:∀ k,v.ownBlock=some k→W2.heap.size≤k) (h:Step g W2 vn va vm W vn' va' vm'):Step g W2 vn va vm W' vn' va' vm' :=
 ⟨Nat.le_trans h.sz hg.size,fun k hk ha=>(hg.block k (Nat.lt_of_lt_of_le hk h.sz) (fun e=>by have:=hv k e.symm;omega)).trans (h.fr k hk ha),h.n,h.a,h.m⟩
theorem P3.move {base:Nat} {s:ByteArray} {L:Nat} {nl al ml nodes:List Nd} (h:P3 W base g s L nl al ml nodes vn va vm) (hg:W'.heap[g]? = W.heap[g]?) (hn:∀ k,vn.ownBlock=some k→W'.heap[k]? = W.heap[k]?) (ha:∀ k,va.ownBlock=some k→W'.heap[k]? = W.heap[k]?) (hm:∀ k,vm.ownBlock=some k→W'.heap[k]? = W.heap[k]?)
  (hb:∀ b ∈ nodes.flatMap Nd.blks,W'.heap[b]? = W.heap[b]?):P3 W' base g s L nl al ml nodes vn va vm :=
 ⟨hg.trans h.z,own_move h.n hn,own_move h.a ha,own_move h.m hm,fun x hx=>(h.ok x hx).move fun b hb'=>hb b (List.mem_flatMap.2 ⟨x,hx,hb'⟩),h.nd,h.sep⟩
theorem P3.below {base:Nat} {s:ByteArray} {L:Nat} {nl al ml nodes:List Nd} (h:P3 W base g s L nl al ml nodes vn va vm) (hb:Below W.heap.size W W'):P3 W' base g s L nl al ml nodes vn va vm :=
 h.move (hb.block _ (blk_lt h.z)) (fun k e=>hb.block k (h.n.lt k e).2) (fun k e=>hb.block k (h.a.lt k e).2) (fun k e=>hb.block k (h.m.lt k e).2) (fun b e=>hb.block b (h.lt b e))
theorem P3.row {base:Nat} {s:ByteArray} {L:Nat} {nl al ml nodes:List Nd} {v:Value} (h:P3 W base g s L nl al ml nodes vn va vm) (hg:W.grownBy W' v.ownBlock) (hv:∀ k,v.ownBlock=some k→Apt g vn va vm k∧k ∉ nodes.flatMap Nd.blks):P3 W' base g s L nl al ml nodes vn va vm :=
 h.move (hg.block _ (blk_lt h.z) (fun e=>(hv g e.symm).1.1 rfl)) (fun k e=>hg.block k (h.n.lt k e).2 (fun e'=>(hv k e'.symm).1.2.1 e)) (fun k e=>hg.block k (h.a.lt k e).2 (fun e'=>(hv k e'.symm).1.2.2.1 e)) (fun k e=>hg.block k (h.m.lt k e).2 (fun e'=>(hv k e'.symm).1.2.2.2 e)) (fun b e=>hg.block b (h.lt b e) (fun e'=>(hv b e'.symm).2 e))
theorem P3.add {base:Nat} {s:ByteArray} {L:Nat} {nl al ml nodes:List Nd} (h:P3 W base g s L nl al ml nodes vn va vm) (x:Nd) (hx:NOk W base L x) (hnd:x.blks.Nodup) (hdis:∀ b ∈ x.blks,b ∉ nodes.flatMap Nd.blks) (hsep:∀ b ∈ x.blks,Apt g vn va vm b):P3 W base g s L nl al ml (nodes ++ [x]) vn va vm:=by
 refine ⟨h.z,h.n,h.a,h.m,fun y hy=>?_,?_,fun b hb=>?_⟩
 ·rcases List.mem_append.1 hy with hy|hy
  ·exact h.ok y hy
  ·rw [List.mem_singleton.1 hy];exact hx
 ·rw [List.flatMap_append,List.nodup_append]
  refine ⟨h.nd,by simpa using hnd,fun b hb c hc e=>?_⟩
  subst e
  exact hdis b (by simpa using hc) hb
 ·rw [List.flatMap_append] at hb
  rcases List.mem_append.1 hb with hb|hb
  ·exact h.sep b hb
  ·exact hsep b (by simpa using hb)
theorem P3.grow_n {base:Nat} {s:ByteArray} {L:Nat} {nl al ml nodes:List Nd} (h:P3 W base g s L nl al ml nodes vn va vm) (x:Nd) (hown:W'.ownsRow base 54 3 vn' (nl.length+1) (nl.flatMap Nd.cells ++ x.cells)) (hg:W.grownBy W' vn.ownBlock) (hat:vn'.ownBlock=vn.ownBlock∨∃ b,vn'.ownBlock=some b∧W.heap.size≤b) :
  P3 (W'.setCell ⟨g,1,none⟩ vn') base g s L (nl ++ [x]) al ml nodes vn' va vm∧Step g W vn va vm (W'.setCell ⟨g,1,none⟩ vn') vn' va vm:=by
 have hgn:some g ≠ vn.ownBlock:=own_ne h.n h.z (by decide)
 have hz':W'.heap[g]? = _:=(hg.block g (blk_lt h.z) hgn).trans h.z
 have hgn':some g ≠ vn'.ownBlock:=own_ne hown hz' (by decide)
 have ha:W'.ownsRow base 48 1 va al.length _:=h.a.kept hg (own_type_ne h.a h.n (by decide))
 have ha':some g ≠ va.ownBlock:=own_ne h.a h.z (by decide)
 have hm:W'.ownsRow base 108 1 vm ml.length _:=h.m.kept hg (own_type_ne h.m h.n (by decide))
 have hm':some g ≠ vm.ownBlock:=own_ne h.m h.z (by decide)
 have hsep:∀ b,b < W.heap.size→Apt g vn va vm b→Apt g vn' va vm b:=fun b hlt hb'=>by
  refine ⟨hb'.1,?_,hb'.2.2.1,hb'.2.2.2⟩
  intro e
  rcases hat with h1|⟨b1,h1,h2⟩
  ·exact hb'.2.1 (h1.symm.trans e)
  ·rw [h1] at e;injection e with e;omega
 refine ⟨⟨blk_put hz' 1 _ (by simp),(by simpa [List.flatMap_append] using own_setCell hown hgn' vn'),own_setCell ha ha' _,own_setCell hm hm' _,fun y hy=>(h.ok y hy).move fun b hb=>?_,h.nd,fun b hb=>hsep b (h.lt b hb) (h.sep b hb)⟩,⟨by simpa using hg.size,fun k hk ha' => ?_,fun k e=>?_,fun k e => .inl e,fun k e => .inl e⟩⟩
 ·have hb2:=List.mem_flatMap.2 ⟨y,hy,hb⟩
  have hb':=h.sep b hb2
  exact (Below.heap_setCell W' _ _ b hb'.1).trans (hg.block b (h.lt b hb2) (fun e=>hb'.2.1 e.symm))
 ·have hb':=ha'
  exact (Below.heap_setCell W' _ _ k hb'.1).trans (hg.block k hk (fun e=>hb'.2.1 e.symm))
 ·rcases hat with h1|⟨b1,h1,h2⟩
  ·exact .inl (h1.symm.trans e)
  ·rw [h1] at e;injection e with e;exact .inr (by omega)
theorem P3.grow_a {base:Nat} {s:ByteArray} {L:Nat} {nl al ml nodes:List Nd} (h:P3 W base g s L nl al ml nodes vn va vm) (x:Nd) (hown:W'.ownsRow base 48 1 va' (al.length+1) (al.map Nd.av ++ [x.av])) (hg:W.grownBy W' va.ownBlock) (hat:va'.ownBlock=va.ownBlock∨∃ b,va'.ownBlock=some b∧W.heap.size≤b) :
  P3 (W'.setCell ⟨g,2,none⟩ va') base g s L nl (al ++ [x]) ml nodes vn va' vm∧Step g W vn va vm (W'.setCell ⟨g,2,none⟩ va') vn va' vm:=by
 have hgn:some g ≠ va.ownBlock:=own_ne h.a h.z (by decide)
 have hz':W'.heap[g]? = _:=(hg.block g (blk_lt h.z) hgn).trans h.z
 have hgn':some g ≠ va'.ownBlock:=own_ne hown hz' (by decide)
 have hn:W'.ownsRow base 54 3 vn nl.length _:=h.n.kept hg (own_type_ne h.n h.a (by decide))
 have hn':some g ≠ vn.ownBlock:=own_ne h.n h.z (by decide)
 have hm:W'.ownsRow base 108 1 vm ml.length _:=h.m.kept hg (own_type_ne h.m h.a (by decide))
 have hm':some g ≠ vm.ownBlock:=own_ne h.m h.z (by decide)
 have hsep:∀ b,b < W.heap.size→Apt g vn va vm b→Apt g vn va' vm b:=fun b hlt hb'=>by
  refine ⟨hb'.1,hb'.2.1,?_,hb'.2.2.2⟩
  intro e
  rcases hat with h1|⟨b1,h1,h2⟩
  ·exact hb'.2.2.1 (h1.symm.trans e)
  ·rw [h1] at e;injection e with e;omega
 refine ⟨⟨blk_put hz' 2 _ (by simp),own_setCell hn hn' _,(by simpa [List.map_append] using own_setCell hown hgn' va'),own_setCell hm hm' _,fun y hy=>(h.ok y hy).move fun b hb=>?_,h.nd,fun b hb=>hsep b (h.lt b hb) (h.sep b hb)⟩,⟨by simpa using hg.size,fun k hk ha' => ?_,fun k e => .inl e,fun k e=>?_,fun k e => .inl e⟩⟩
 ·have hb2:=List.mem_flatMap.2 ⟨y,hy,hb⟩
  have hb':=h.sep b hb2
  exact (Below.heap_setCell W' _ _ b hb'.1).trans (hg.block b (h.lt b hb2) (fun e=>hb'.2.2.1 e.symm))
 ·have hb':=ha'
  exact (Below.heap_setCell W' _ _ k hb'.1).trans (hg.block k hk (fun e=>hb'.2.2.1 e.symm))
 ·rcases hat with h1|⟨b1,h1,h2⟩
  ·exact .inl (h1.symm.trans e)
  ·rw [h1] at e;injection e with e;exact .inr (by omega)
theorem P3.grow_m {base:Nat} {s:ByteArray} {L:Nat} {nl al ml nodes:List Nd} (h:P3 W base g s L nl al ml nodes vn va vm) (x:Nd) (hown:W'.ownsRow base 108 1 vm' (ml.length+1) (ml.map (Nd.mv L) ++ [x.mv L])) (hg:W.grownBy W' vm.ownBlock) (hat:vm'.ownBlock=vm.ownBlock∨∃ b,vm'.ownBlock=some b∧W.heap.size≤b) :
  P3 (W'.setCell ⟨g,3,none⟩ vm') base g s L nl al (ml ++ [x]) nodes vn va vm'∧Step g W vn va vm (W'.setCell ⟨g,3,none⟩ vm') vn va vm':=by
 have hgn:some g ≠ vm.ownBlock:=own_ne h.m h.z (by decide)
 have hz':W'.heap[g]? = _:=(hg.block g (blk_lt h.z) hgn).trans h.z
 have hgn':some g ≠ vm'.ownBlock:=own_ne hown hz' (by decide)
 have hn:W'.ownsRow base 54 3 vn nl.length _:=h.n.kept hg (own_type_ne h.n h.m (by decide))
 have hn':some g ≠ vn.ownBlock:=own_ne h.n h.z (by decide)
 have ha:W'.ownsRow base 48 1 va al.length _:=h.a.kept hg (own_type_ne h.a h.m (by decide))
 have ha':some g ≠ va.ownBlock:=own_ne h.a h.z (by decide)
 have hsep:∀ b,b < W.heap.size→Apt g vn va vm b→Apt g vn va vm' b:=fun b hlt hb'=>by
  refine ⟨hb'.1,hb'.2.1,hb'.2.2.1,?_⟩
  intro e
  rcases hat with h1|⟨b1,h1,h2⟩
  ·exact hb'.2.2.2 (h1.symm.trans e)
  ·rw [h1] at e;injection e with e;omega
 refine ⟨⟨blk_put hz' 3 _ (by simp),own_setCell hn hn' _,own_setCell ha ha' _,(by simpa [List.map_append] using own_setCell hown hgn' vm'),fun y hy=>(h.ok y hy).move fun b hb=>?_,h.nd,fun b hb=>hsep b (h.lt b hb) (h.sep b hb)⟩,⟨by simpa using hg.size,fun k hk ha' => ?_,fun k e => .inl e,fun k e => .inl e,fun k e=>?_⟩⟩
 ·have hb2:=List.mem_flatMap.2 ⟨y,hy,hb⟩
  have hb':=h.sep b hb2
  exact (Below.heap_setCell W' _ _ b hb'.1).trans (hg.block b (h.lt b hb2) (fun e=>hb'.2.2.2 e.symm))
 ·have hb':=ha'
  exact (Below.heap_setCell W' _ _ k hb'.1).trans (hg.block k hk (fun e=>hb'.2.2.2 e.symm))
 ·rcases hat with h1|⟨b1,h1,h2⟩
  ·exact .inl (h1.symm.trans e)
  ·rw [h1] at e;injection e with e;exact .inr (by omega)
end
end Go.Proofs.YtcbjhfoeecfcoaaGreat.Ext
