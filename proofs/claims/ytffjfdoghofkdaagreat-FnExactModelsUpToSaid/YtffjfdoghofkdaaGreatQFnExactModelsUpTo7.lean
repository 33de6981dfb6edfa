/- FnExactModelsUpTo: what its proof needs, put together by this session's program wip/merge.py out of the texts that wip/xp.py printed and of this session's own. -/
import Derived.Test.YtffjfdoghofkdaaGreatQFnExactModelsUpTo6
import Derived.Deep.RegionHeld3
import Derived.ChangeArms
import Derived.ChangeReads
import Derived.DataReads
import Derived.DataElems
import Derived.Lib.Strings
import Derived.Lib.Bytealg
import Derived.Test.YtffjfdoghofkdaaGreatRows
import Derived.WalkKit
import Derived.ProofKit
import Derived.OpenShut
import Derived.ShutString
import Derived.ChangeOld
import Derived.Below
import Derived.SizedLaws
import Derived.Lib.SmallJoins
set_option linter.unusedVariables false
set_option linter.unusedSimpArgs false
set_option linter.unusedSectionVars false
set_option maxHeartbeats 8000000
set_option maxRecDepth 100000
namespace Go.Proofs.YtffjfdoghofkdaaGreat.A
open Go.RowKit YtffjfdoghofkdaaGreat.Ext YtffjfdoghofkdaaGreatW.PrintWords YtffjfdoghofkdaaGreatW.PrintLast YtffjfdoghofkdaaGreatW.PrintMore
attribute [local go_sem] max2_int min2_int max_two min_two max_three min_three max_four min_four
def laws_heldValuesS.l0:Nat→List (S32)→Int→Int→Option (Int)
 | 0,_,_,_=>none
 | k+1,x0,x1,x5=>if x5 < (x0.length:Int) then (if 0≤x5 then ((laws_markText.f k x1).bind fun t28002=>(if ((rd_T32 x0 x5).f0).toList=t28002.toList then ((laws_markText.f k (wrap64 (x1+1))).bind fun t28004=>(if ((rd_T32 x0 x5).f1).toList=t28004.toList then ((laws_markText.f k (wrap64 ((wrap64 (x1+1))+1))).bind fun t28006=>(if ((rd_T32 x0 x5).f2).toList=t28006.toList then (laws_heldValuesS.l0 k x0 (wrap64 ((wrap64 ((wrap64 (x1+1))+1))+1)) (wrap64 (x5+1))) else (some (-1)))) else (some (-1)))) else (some (-1)))) else (none)) else (some x1)
def laws_heldValuesS.f (k:Nat) (l0:List (S32)) (a1:Int):Option (Int):=laws_heldValuesS.l0 k l0 a1 0
theorem laws_heldValuesS.mono_l:∀ k,(∀ y0 y1 y2,LeO (laws_heldValuesS.l0 k y0 y1 y2) (laws_heldValuesS.l0 (k+1) y0 y1 y2))
 | 0=>fun _ _ _ r h=>by simp [laws_heldValuesS.l0] at h
 | k+1=>by
  have ih0:=laws_heldValuesS.mono_l k
  ·intro y0 y1 y2
   unfold laws_heldValuesS.l0
   repeat' first
   | with_reducible first|exact ih0 _ _ _|exact laws_markText.mono _ _|exact LeO.refl _|exact LeO.none _|refine LeO.ite ?_ ?_|refine LeO.bind ?_ (fun _=>?_)
theorem laws_heldValuesS.mono:∀ a0 a1 k,LeO (laws_heldValuesS.f k a0 a1) (laws_heldValuesS.f (k+1) a0 a1):=by
 intro a0 a1 k
 have ih0:=laws_heldValuesS.mono_l k
 unfold laws_heldValuesS.f
 repeat' first
  | with_reducible first|exact ih0 _ _ _|exact laws_markText.mono _ _|exact LeO.refl _|exact LeO.none _|refine LeO.ite ?_ ?_|refine LeO.bind ?_ (fun _=>?_)
def laws_heldValuesS.T4:Bool × List (List Nat × List Nat):=(true,[([],[]),([],[]),([0,1],[0,1]),([2],[2]),([3],[3]),([],[]),([5],[5]),([4,6],[4,6])])
def laws_heldValuesS.B4:List Nat:=[0,0,3,7,15,0,32,127]
theorem laws_heldValuesS.tab4:rtab .any (opsOf Tryz.f28 4)=laws_heldValuesS.T4:=by kernel_rfl
theorem laws_heldValuesS.bits4:waitsOk laws_heldValuesS.T4.2 laws_heldValuesS.B4=true:=by kernel_rfl
def laws_heldValuesS.T7:Bool × List (List Nat × List Nat):=(true,[([],[]),([],[]),([0,1],[0,1]),([2],[2]),([3],[3]),([],[]),([5],[5]),([4,6],[4,6])])
def laws_heldValuesS.B7:List Nat:=[0,0,3,7,15,0,32,127]
theorem laws_heldValuesS.tab7:rtab .any (opsOf Tryz.f28 7)=laws_heldValuesS.T7:=by kernel_rfl
theorem laws_heldValuesS.bits7:waitsOk laws_heldValuesS.T7.2 laws_heldValuesS.B7=true:=by kernel_rfl
def laws_heldValuesS.T10:Bool × List (List Nat × List Nat):=(true,[([],[]),([],[]),([0,1],[0,1]),([2],[2]),([3],[3]),([],[]),([5],[5]),([4,6],[4,6])])
def laws_heldValuesS.B10:List Nat:=[0,0,3,7,15,0,32,127]
theorem laws_heldValuesS.tab10:rtab .any (opsOf Tryz.f28 10)=laws_heldValuesS.T10:=by kernel_rfl
theorem laws_heldValuesS.bits10:waitsOk laws_heldValuesS.T10.2 laws_heldValuesS.B10=true:=by kernel_rfl
theorem laws_heldValuesS.calls (k:Nat) (A0:Option Addr) (c0:Nat) (l0:List (S32)) (a1:Int) (r:Int) (w:World) (hr0:Kd.C k32 w A0 l0.length l0) (hc0:l0.length≤c0) (h:laws_heldValuesS.f k l0 a1=some r) :
   Calls Tryz.prog 28 #[.slice A0 l0.length c0,.int .i64 a1] w fun e w'=>e = .returned (.int .i64 r)∧Below w.heap.size w w':=by
 have HR0:=zk hr0
 have HC0:=zk hc0
 clear hr0 hc0
 have HB:=zk (Below.refl w.heap.size w)
 have H:(laws_heldValuesS.l0 k l0 a1 0)=some r:=h
 clear h
 have H':=zk H
 clear H
 go_enter Tryz.func28,Tryz.ntmps28
 go_wp2
 first|go_loopg [1,5] k (fun kq v1 v5 w'=>∃ (x1_1:Int) (x5_1:Int),v1 = .int .i64 x1_1∧v5 = .int .i64 x5_1∧Aside0 (laws_heldValuesS.l0 kq l0 x1_1 x5_1=some r)∧Aside0 (kq≤k)∧Aside0 (Below w.heap.size w w'))|(simp only [Act.put,zt,zv,zu];go_loopg [1,5] k (fun kq v1 v5 w'=>∃ (x1_1:Int) (x5_1:Int),v1 = .int .i64 x1_1∧v5 = .int .i64 x5_1∧Aside0 (laws_heldValuesS.l0 kq l0 x1_1 x5_1=some r)∧Aside0 (kq≤k)∧Aside0 (Below w.heap.size w w')))
 case atStart=>exact ⟨(a1),(0),za7,za7,H',⟨Nat.le_refl _⟩,⟨za3⟩⟩
 case round =>
  clear H'
  obtain ⟨x1_1,x5_1,rfl,rfl,HA,HK1,HB⟩:=hrel
  cases gk with
  | zero=>exact absurd HA.out (by simp [laws_heldValuesS.l0])
  | succ k1 =>
   have H:=HA.out
   clear HA
   simp only [laws_heldValuesS.l0] at H
   by_cases c3:x5_1 < (l0.length:Int)
   rw [if_pos c3] at H
   have c3b0:decide (x5_1 < (l0.length:Int))=true:=decide_eq_true c3
   clear c3
   by_cases c4:0≤x5_1
   rw [if_pos c4] at H
   have c4b0:decide (0≤x5_1)=true:=decide_eq_true c4
   clear c4
   replace H:=zo H
   obtain ⟨t28002,A50,H⟩:=H
   replace H:(if ((rd_T32 l0 x5_1).f0).toList=t28002.toList then ((laws_markText.f k1 (wrap64 (x1_1+1))).bind fun t28004=>(if ((rd_T32 l0 x5_1).f1).toList=t28004.toList then ((laws_markText.f k1 (wrap64 ((wrap64 (x1_1+1))+1))).bind fun t28006=>(if ((rd_T32 l0 x5_1).f2).toList=t28006.toList then (laws_heldValuesS.l0 k1 l0 (wrap64 ((wrap64 ((wrap64 (x1_1+1))+1))+1)) (wrap64 (x5_1+1))) else (some (-1)))) else (some (-1)))) else (some (-1)))=some r:=H
   have A5:=zk A50
   clear A50
   by_cases c6:((rd_T32 l0 x5_1).f0).toList=t28002.toList
   rw [if_pos c6] at H
   have c6b0:(((rd_T32 l0 x5_1).f0).toList == t28002.toList)=true:=beq_iff_eq.mpr c6
   have c6b1:(((rd_T32 l0 x5_1).f0).toList != t28002.toList)=false:=bne_eq_false_iff_eq.mpr c6
   clear c6
   replace H:=zo H
   obtain ⟨t28004,A70,H⟩:=H
   replace H:(if ((rd_T32 l0 x5_1).f1).toList=t28004.toList then ((laws_markText.f k1 (wrap64 ((wrap64 (x1_1+1))+1))).bind fun t28006=>(if ((rd_T32 l0 x5_1).f2).toList=t28006.toList then (laws_heldValuesS.l0 k1 l0 (wrap64 ((wrap64 ((wrap64 (x1_1+1))+1))+1)) (wrap64 (x5_1+1))) else (some (-1)))) else (some (-1)))=some r:=H
   have A7:=zk A70
   clear A70
   by_cases c8:((rd_T32 l0 x5_1).f1).toList=t28004.toList
   rw [if_pos c8] at H
   have c8b0:(((rd_T32 l0 x5_1).f1).toList == t28004.toList)=true:=beq_iff_eq.mpr c8
   have c8b1:(((rd_T32 l0 x5_1).f1).toList != t28004.toList)=false:=bne_eq_false_iff_eq.mpr c8
   clear c8
   replace H:=zo H
   obtain ⟨t28006,A90,H⟩:=H
   replace H:(if ((rd_T32 l0 x5_1).f2).toList=t28006.toList then (laws_heldValuesS.l0 k1 l0 (wrap64 ((wrap64 ((wrap64 (x1_1+1))+1))+1)) (wrap64 (x5_1+1))) else (some (-1)))=some r:=H
   have A9:=zk A90
   clear A90
   by_cases c10:((rd_T32 l0 x5_1).f2).toList=t28006.toList
   rw [if_pos c10] at H
   have c10b0:(((rd_T32 l0 x5_1).f2).toList == t28006.toList)=true:=beq_iff_eq.mpr c10
   have c10b1:(((rd_T32 l0 x5_1).f2).toList != t28006.toList)=false:=bne_eq_false_iff_eq.mpr c10
   clear c10
   have H':=zk H
   clear H
   have fin0_:=zk trivial
   rotate_left
   rw [if_neg c10] at H
   have c10b0:(((rd_T32 l0 x5_1).f2).toList == t28006.toList)=false:=beq_eq_false_iff_ne.mpr c10
   have c10b1:(((rd_T32 l0 x5_1).f2).toList != t28006.toList)=true:=bne_iff_ne.mpr c10
   obtain rfl:=zi H
   have fin1_:=zk trivial
   rotate_left
   · rw [if_neg c8] at H
     have c8b0:(((rd_T32 l0 x5_1).f1).toList == t28004.toList)=false:=beq_eq_false_iff_ne.mpr c8
     have c8b1:(((rd_T32 l0 x5_1).f1).toList != t28004.toList)=true:=bne_iff_ne.mpr c8
     obtain rfl:=zi H
     try go_wp2
     have n0_:=zk (below_drew1 HB.out)
     clear HB
     have HB:=n0_
     clear n0_
     have p28001:0≤(x5_1:Int):=of_decide_eq_true za8
     have q28001:x5_1 < (l0.length:Int):=of_decide_eq_true za8
     obtain ⟨ad28001,e28001,hx28001_0,hx28001_1,hx28001_2⟩:=at_T32 HR0.out x5_1 p28001 q28001
     have hw28001_2:=hx28001_2
     have hw28001_1:=hx28001_1
     have hw28001_0:=hx28001_0
     cases e28001
     replace hx28001_0:=zx HB.out hx28001_0
     replace hx28001_1:=zx HB.out hx28001_1
     replace hx28001_2:=zx HB.out hx28001_2
     replace p28001:=eq_true p28001
     replace q28001:=eq_true q28001
     refine start_ (n:=8) (S:=fun w'=>w'.cell? (ad28001.add ((x5_1).toNat * 3))=some (.string ((rd_T32 l0 x5_1).f0))∧w'.cell? ⟨(ad28001.add ((x5_1).toNat * 3)).block,(ad28001.add ((x5_1).toNat * 3)).off+1,none⟩=some (.string ((rd_T32 l0 x5_1).f1))∧w'.cell? ⟨(ad28001.add ((x5_1).toNat * 3)).block,(ad28001.add ((x5_1).toNat * 3)).off+2,none⟩=some (.string ((rd_T32 l0 x5_1).f2))) (ds:=[]) #[false,false,false,false,false,false,false,false] (by kernel_rfl) rfl rfl ⟨((HB.out.cell (World.block_lt_of_cell? w _ hw28001_0)).trans hw28001_0),((HB.out.cell (World.block_lt_of_cell? w _ hw28001_1)).trans hw28001_1),((HB.out.cell (World.block_lt_of_cell? w _ hw28001_2)).trans hw28001_2)⟩ (fun hHeld=>?_);refine with_tabW laws_heldValuesS.tab4 laws_heldValuesS.bits4 (fun HT_ HW_=>?_)
     generalize wr.drew=w23 at HB hx28001_0 hx28001_1 hx28001_2 hHeld ⊢
     refine pure_ (i:=0) (N:=some 12) (v:=?_) (a':=?_) #[true,false,false,false,false,false,false,false] rfl rfl (any_of HT_.out (by kernel_rfl)) (fun _ _ _ h=>h) (Or.inl ⟨by rfl,?_⟩) ?_ ?_
     rotate_left
     · intro w'
       go_simp
       exact zr1
     rotate_left
     · simp only [Act.put,zt,zu,zv,i64_w,i32_w]
       rfl
     refine pure_ (i:=1) (N:=some 13) (v:=?_) (a':=?_) #[true,true,false,false,false,false,false,false] rfl rfl (any_of HT_.out (by kernel_rfl)) (fun _ _ _ h=>h) (Or.inl ⟨by rfl,?_⟩) ?_ ?_
     rotate_left
     · intro w'
       go_simp
       exact zr1
     rotate_left
     · simp only [Act.put,zt,zu,zv,i64_w,i32_w]
       rfl
     refine pure_ (i:=2) (N:=some 14) (v:=?_) (a':=?_) #[true,true,true,false,false,false,false,false] rfl rfl (any_of HT_.out (by kernel_rfl)) (fun _ _ _ h=>h) (Or.inl ⟨by rfl,?_⟩) ?_ ?_
     rotate_left
     · intro w'
       go_simp
       exact zr1
     rotate_left
     · simp only [Act.put,zt,zu,zv,i64_w,i32_w]
       rfl
     refine pure_ (i:=3) (N:=some 15) (v:=?_) (a':=?_) #[true,true,true,true,false,false,false,false] rfl rfl (any_of HT_.out (by kernel_rfl)) (fun _ _ _ h=>h) (Or.inl ⟨by rfl,?_⟩) ?_ ?_
     rotate_left
     · intro w'
       go_simp
       exact zr1
     rotate_left
     · simp only [Act.put,zt,zu,zv,i64_w,i32_w]
       rfl
     refine pure_ (i:=5) (N:=some 17) (v:=?_) (a':=?_) #[true,true,true,true,false,true,false,false] rfl rfl (any_of HT_.out (by kernel_rfl)) (fun _ _ _ h=>h) (Or.inl ⟨by rfl,?_⟩) ?_ ?_
     rotate_left
     · intro w'
       go_simp
       exact zr1
     rotate_left
     · simp only [Act.put,zt,zu,zv,i64_w,i32_w]
       rfl
     refine take_ (i:=4) (N:=some 16) (v:=?_) (a':=?_) #[true,true,true,true,true,true,false,false] rfl rfl (take_ofW HT_.out HW_.out (by kernel_rfl)) (fun _ _ _ h=>h) (Or.inl ⟨by rfl,?_⟩) hHeld ?_ ?_
     rotate_left
     · rintro w' ⟨s0,s1,s2⟩
       go_simp
       exact zr1
     rotate_left
     · simp only [Act.put,zt,zu,zv,i64_w,i32_w]
       rfl
     refine one_ (i:=6) (N:=some 18) #[true,true,true,true,true,true,true,false] rfl rfl (one_of HT_.out (by kernel_rfl)) (by decide) (fun K hK=>?_)
     refine goes_ Tryz.func60 (by kernel_rfl) rfl #[.int .i64 x1_1] (by rfl) rfl rfl za4 ?_
     with_reducible refine (laws_markText.calls k1 x1_1 t28002 _ A5.out).mono ?_
     rintro e w24 ⟨rfl,hb⟩
     refine ⟨_,rfl,?_⟩
     have n0_:=zk (below_step za3 hb)
     clear HB
     have HB:=n0_
     clear n0_
     (try clear hb)
     (try clear hb2)
     (try clear hk)
     (try clear hi)
     refine hK.out _ _ ⟨((HB.out.cell (World.block_lt_of_cell? w _ hw28001_0)).trans hw28001_0),((HB.out.cell (World.block_lt_of_cell? w _ hw28001_1)).trans hw28001_1),((HB.out.cell (World.block_lt_of_cell? w _ hw28001_2)).trans hw28001_2)⟩ (fun hHeld=>?_)
     clear hK K
     refine norm_ (a':=?_) ?_ ?_
     rotate_left
     · show Act.put _ (some 18) _=_
       simp only [Act.put,zt,zu,zv,i64_w,i32_w]
       rfl
     refine pure_ (i:=7) (N:=some 19) (v:=?_) (a':=?_) #[true,true,true,true,true,true,true,true] rfl rfl (any_of HT_.out (by kernel_rfl)) (fun _ _ _ h=>h) (Or.inl ⟨by rfl,?_⟩) ?_ ?_
     rotate_left
     · intro w'
       go_simp
       exact zr1
     rotate_left
     · simp only [Act.put,zt,zu,zv,i64_w,i32_w]
       rfl
     refine done_ (done_of HT_.out (by kernel_rfl)) ?_
     try go_wp2
     have n0_:=zk (below_drew1 HB.out)
     clear HB
     have HB:=n0_
     clear n0_
     have p28003:0≤(x5_1:Int):=of_decide_eq_true za8
     have q28003:x5_1 < (l0.length:Int):=of_decide_eq_true za8
     obtain ⟨ad28003,e28003,hx28003_0,hx28003_1,hx28003_2⟩:=at_T32 HR0.out x5_1 p28003 q28003
     have hw28003_2:=hx28003_2
     have hw28003_1:=hx28003_1
     have hw28003_0:=hx28003_0
     obtain rfl:ad28001=ad28003:=(by injection e28003)
     replace hx28003_0:=zx HB.out hx28003_0
     replace hx28003_1:=zx HB.out hx28003_1
     replace hx28003_2:=zx HB.out hx28003_2
     replace p28003:=eq_true p28003
     replace q28003:=eq_true q28003
     refine start_ (n:=8) (S:=fun w'=>w'.cell? (ad28001.add ((x5_1).toNat * 3))=some (.string ((rd_T32 l0 x5_1).f0))∧w'.cell? ⟨(ad28001.add ((x5_1).toNat * 3)).block,(ad28001.add ((x5_1).toNat * 3)).off+1,none⟩=some (.string ((rd_T32 l0 x5_1).f1))∧w'.cell? ⟨(ad28001.add ((x5_1).toNat * 3)).block,(ad28001.add ((x5_1).toNat * 3)).off+2,none⟩=some (.string ((rd_T32 l0 x5_1).f2))) (ds:=[]) #[false,false,false,false,false,false,false,false] (by kernel_rfl) rfl rfl ⟨((HB.out.cell (World.block_lt_of_cell? w _ hw28003_0)).trans hw28003_0),((HB.out.cell (World.block_lt_of_cell? w _ hw28003_1)).trans hw28003_1),((HB.out.cell (World.block_lt_of_cell? w _ hw28003_2)).trans hw28003_2)⟩ (fun hHeld=>?_);refine with_tabW laws_heldValuesS.tab7 laws_heldValuesS.bits7 (fun HT_ HW_=>?_)
     generalize w24.drew=w25 at HB hx28003_0 hx28003_1 hx28003_2 hHeld ⊢
     refine pure_ (i:=0) (N:=some 22) (v:=?_) (a':=?_) #[true,false,false,false,false,false,false,false] rfl rfl (any_of HT_.out (by kernel_rfl)) (fun _ _ _ h=>h) (Or.inl ⟨by rfl,?_⟩) ?_ ?_
     rotate_left
     · intro w'
       go_simp
       exact zr1
     rotate_left
     · simp only [Act.put,zt,zu,zv,i64_w,i32_w]
       rfl
     refine pure_ (i:=1) (N:=some 23) (v:=?_) (a':=?_) #[true,true,false,false,false,false,false,false] rfl rfl (any_of HT_.out (by kernel_rfl)) (fun _ _ _ h=>h) (Or.inl ⟨by rfl,?_⟩) ?_ ?_
     rotate_left
     · intro w'
       go_simp
       exact zr1
     rotate_left
     · simp only [Act.put,zt,zu,zv,i64_w,i32_w]
       rfl
     refine pure_ (i:=2) (N:=some 24) (v:=?_) (a':=?_) #[true,true,true,false,false,false,false,false] rfl rfl (any_of HT_.out (by kernel_rfl)) (fun _ _ _ h=>h) (Or.inl ⟨by rfl,?_⟩) ?_ ?_
     rotate_left
     · intro w'
       go_simp
       exact zr1
     rotate_left
     · simp only [Act.put,zt,zu,zv,i64_w,i32_w]
       rfl
     refine pure_ (i:=3) (N:=some 25) (v:=?_) (a':=?_) #[true,true,true,true,false,false,false,false] rfl rfl (any_of HT_.out (by kernel_rfl)) (fun _ _ _ h=>h) (Or.inl ⟨by rfl,?_⟩) ?_ ?_
     rotate_left
     · intro w'
       go_simp
       exact zr1
     rotate_left
     · simp only [Act.put,zt,zu,zv,i64_w,i32_w]
       rfl
     refine pure_ (i:=5) (N:=some 27) (v:=?_) (a':=?_) #[true,true,true,true,false,true,false,false] rfl rfl (any_of HT_.out (by kernel_rfl)) (fun _ _ _ h=>h) (Or.inl ⟨by rfl,?_⟩) ?_ ?_
     rotate_left
     · intro w'
       go_simp
       exact zr1
     rotate_left
     · simp only [Act.put,zt,zu,zv,i64_w,i32_w]
       rfl
     refine take_ (i:=4) (N:=some 26) (v:=?_) (a':=?_) #[true,true,true,true,true,true,false,false] rfl rfl (take_ofW HT_.out HW_.out (by kernel_rfl)) (fun _ _ _ h=>h) (Or.inl ⟨by rfl,?_⟩) hHeld ?_ ?_
     rotate_left
     · rintro w' ⟨s0,s1,s2⟩
       go_simp
       exact zr1
     rotate_left
     · simp only [Act.put,zt,zu,zv,i64_w,i32_w]
       rfl
     refine one_ (i:=6) (N:=some 28) #[true,true,true,true,true,true,true,false] rfl rfl (one_of HT_.out (by kernel_rfl)) (by decide) (fun K hK=>?_)
     refine goes_ Tryz.func60 (by kernel_rfl) rfl #[.int .i64 (wrap64 (x1_1+1))] (by rfl) rfl rfl za4 ?_
     with_reducible refine (laws_markText.calls k1 (wrap64 (x1_1+1)) t28004 _ A7.out).mono ?_
     rintro e w26 ⟨rfl,hb⟩
     refine ⟨_,rfl,?_⟩
     have n0_:=zk (below_step za3 hb)
     clear HB
     have HB:=n0_
     clear n0_
     (try clear hb)
     (try clear hb2)
     (try clear hk)
     (try clear hi)
     refine hK.out _ _ ⟨((HB.out.cell (World.block_lt_of_cell? w _ hw28003_0)).trans hw28003_0),((HB.out.cell (World.block_lt_of_cell? w _ hw28003_1)).trans hw28003_1),((HB.out.cell (World.block_lt_of_cell? w _ hw28003_2)).trans hw28003_2)⟩ (fun hHeld=>?_)
     clear hK K
     refine norm_ (a':=?_) ?_ ?_
     rotate_left
     · show Act.put _ (some 28) _=_
       simp only [Act.put,zt,zu,zv,i64_w,i32_w]
       rfl
     refine pure_ (i:=7) (N:=some 29) (v:=?_) (a':=?_) #[true,true,true,true,true,true,true,true] rfl rfl (any_of HT_.out (by kernel_rfl)) (fun _ _ _ h=>h) (Or.inl ⟨by rfl,?_⟩) ?_ ?_
     rotate_left
     · intro w'
       go_simp
       exact zr1
     rotate_left
     · simp only [Act.put,zt,zu,zv,i64_w,i32_w]
       rfl
     refine done_ (done_of HT_.out (by kernel_rfl)) ?_
     try go_wp2
     go_ret
     exact ⟨za6,za3⟩
   · rw [if_neg c6] at H
     have c6b0:(((rd_T32 l0 x5_1).f0).toList == t28002.toList)=false:=beq_eq_false_iff_ne.mpr c6
     have c6b1:(((rd_T32 l0 x5_1).f0).toList != t28002.toList)=true:=bne_iff_ne.mpr c6
     obtain rfl:=zi H
     try go_wp2
     have n0_:=zk (below_drew1 HB.out)
     clear HB
     have HB:=n0_
     clear n0_
     have p28001:0≤(x5_1:Int):=of_decide_eq_true za8
     have q28001:x5_1 < (l0.length:Int):=of_decide_eq_true za8
     obtain ⟨ad28001,e28001,hx28001_0,hx28001_1,hx28001_2⟩:=at_T32 HR0.out x5_1 p28001 q28001
     have hw28001_2:=hx28001_2
     have hw28001_1:=hx28001_1
     have hw28001_0:=hx28001_0
     cases e28001
     replace hx28001_0:=zx HB.out hx28001_0
     replace hx28001_1:=zx HB.out hx28001_1
     replace hx28001_2:=zx HB.out hx28001_2
     replace p28001:=eq_true p28001
     replace q28001:=eq_true q28001
     refine start_ (n:=8) (S:=fun w'=>w'.cell? (ad28001.add ((x5_1).toNat * 3))=some (.string ((rd_T32 l0 x5_1).f0))∧w'.cell? ⟨(ad28001.add ((x5_1).toNat * 3)).block,(ad28001.add ((x5_1).toNat * 3)).off+1,none⟩=some (.string ((rd_T32 l0 x5_1).f1))∧w'.cell? ⟨(ad28001.add ((x5_1).toNat * 3)).block,(ad28001.add ((x5_1).toNat * 3)).off+2,none⟩=some (.string ((rd_T32 l0 x5_1).f2))) (ds:=[]) #[false,false,false,false,false,false,false,false] (by kernel_rfl) rfl rfl ⟨((HB.out.cell (World.block_lt_of_cell? w _ hw28001_0)).trans hw28001_0),((HB.out.cell (World.block_lt_of_cell? w _ hw28001_1)).trans hw28001_1),((HB.out.cell (World.block_lt_of_cell? w _ hw28001_2)).trans hw28001_2)⟩ (fun hHeld=>?_);refine with_tabW laws_heldValuesS.tab4 laws_heldValuesS.bits4 (fun HT_ HW_=>?_)
     generalize wr.drew=w27 at HB hx28001_0 hx28001_1 hx28001_2 hHeld ⊢
     refine pure_ (i:=0) (N:=some 12) (v:=?_) (a':=?_) #[true,false,false,false,false,false,false,false] rfl rfl (any_of HT_.out (by kernel_rfl)) (fun _ _ _ h=>h) (Or.inl ⟨by rfl,?_⟩) ?_ ?_
     rotate_left
     · intro w'
       go_simp
       exact zr1
     rotate_left
     · simp only [Act.put,zt,zu,zv,i64_w,i32_w]
       rfl
     refine pure_ (i:=1) (N:=some 13) (v:=?_) (a':=?_) #[true,true,false,false,false,false,false,false] rfl rfl (any_of HT_.out (by kernel_rfl)) (fun _ _ _ h=>h) (Or.inl ⟨by rfl,?_⟩) ?_ ?_
     rotate_left
     · intro w'
       go_simp
       exact zr1
     rotate_left
     · simp only [Act.put,zt,zu,zv,i64_w,i32_w]
       rfl
     refine pure_ (i:=2) (N:=some 14) (v:=?_) (a':=?_) #[true,true,true,false,false,false,false,false] rfl rfl (any_of HT_.out (by kernel_rfl)) (fun _ _ _ h=>h) (Or.inl ⟨by rfl,?_⟩) ?_ ?_
     rotate_left
     · intro w'
       go_simp
       exact zr1
     rotate_left
     · simp only [Act.put,zt,zu,zv,i64_w,i32_w]
       rfl
     refine pure_ (i:=3) (N:=some 15) (v:=?_) (a':=?_) #[true,true,true,true,false,false,false,false] rfl rfl (any_of HT_.out (by kernel_rfl)) (fun _ _ _ h=>h) (Or.inl ⟨by rfl,?_⟩) ?_ ?_
     rotate_left
     · intro w'
       go_simp
       exact zr1
     rotate_left
     · simp only [Act.put,zt,zu,zv,i64_w,i32_w]
       rfl
     refine pure_ (i:=5) (N:=some 17) (v:=?_) (a':=?_) #[true,true,true,true,false,true,false,false] rfl rfl (any_of HT_.out (by kernel_rfl)) (fun _ _ _ h=>h) (Or.inl ⟨by rfl,?_⟩) ?_ ?_
     rotate_left
     · intro w'
       go_simp
       exact zr1
     rotate_left
     · simp only [Act.put,zt,zu,zv,i64_w,i32_w]
       rfl
     refine take_ (i:=4) (N:=some 16) (v:=?_) (a':=?_) #[true,true,true,true,true,true,false,false] rfl rfl (take_ofW HT_.out HW_.out (by kernel_rfl)) (fun _ _ _ h=>h) (Or.inl ⟨by rfl,?_⟩) hHeld ?_ ?_
     rotate_left
     · rintro w' ⟨s0,s1,s2⟩
       go_simp
       exact zr1
     rotate_left
     · simp only [Act.put,zt,zu,zv,i64_w,i32_w]
       rfl
     refine one_ (i:=6) (N:=some 18) #[true,true,true,true,true,true,true,false] rfl rfl (one_of HT_.out (by kernel_rfl)) (by decide) (fun K hK=>?_)
     refine goes_ Tryz.func60 (by kernel_rfl) rfl #[.int .i64 x1_1] (by rfl) rfl rfl za4 ?_
     with_reducible refine (laws_markText.calls k1 x1_1 t28002 _ A5.out).mono ?_
     rintro e w28 ⟨rfl,hb⟩
     refine ⟨_,rfl,?_⟩
     have n0_:=zk (below_step za3 hb)
     clear HB
     have HB:=n0_
     clear n0_
     (try clear hb)
     (try clear hb2)
     (try clear hk)
     (try clear hi)
     refine hK.out _ _ ⟨((HB.out.cell (World.block_lt_of_cell? w _ hw28001_0)).trans hw28001_0),((HB.out.cell (World.block_lt_of_cell? w _ hw28001_1)).trans hw28001_1),((HB.out.cell (World.block_lt_of_cell? w _ hw28001_2)).trans hw28001_2)⟩ (fun hHeld=>?_)
     clear hK K
     refine norm_ (a':=?_) ?_ ?_
     rotate_left
     · show Act.put _ (some 18) _=_
       simp only [Act.put,zt,zu,zv,i64_w,i32_w]
       rfl
     refine pure_ (i:=7) (N:=some 19) (v:=?_) (a':=?_) #[true,true,true,true,true,true,true,true] rfl rfl (any_of HT_.out (by kernel_rfl)) (fun _ _ _ h=>h) (Or.inl ⟨by rfl,?_⟩) ?_ ?_
     rotate_left
     · intro w'
       go_simp
       exact zr1
     rotate_left
     · simp only [Act.put,zt,zu,zv,i64_w,i32_w]
       rfl
     refine done_ (done_of HT_.out (by kernel_rfl)) ?_
     try go_wp2
     go_ret
     exact ⟨za6,za3⟩
   · rw [if_neg c4] at H
     exact absurd H (by simp)
   · rw [if_neg c3] at H
     have c3b0:decide (x5_1 < (l0.length:Int))=false:=decide_eq_false c3
     clear c3
     obtain rfl:=zi H
     go_wp2
     go_ret
     exact ⟨za6,za3⟩
   all_goals
    try go_wp2
    have n0_:=zk (below_drew1 HB.out)
    clear HB
    have HB:=n0_
    clear n0_
    have p28001:0≤(x5_1:Int):=of_decide_eq_true za8
    have q28001:x5_1 < (l0.length:Int):=of_decide_eq_true za8
    obtain ⟨ad28001,e28001,hx28001_0,hx28001_1,hx28001_2⟩:=at_T32 HR0.out x5_1 p28001 q28001
    have hw28001_2:=hx28001_2
    have hw28001_1:=hx28001_1
    have hw28001_0:=hx28001_0
    cases e28001
    replace hx28001_0:=zx HB.out hx28001_0
    replace hx28001_1:=zx HB.out hx28001_1
    replace hx28001_2:=zx HB.out hx28001_2
    replace p28001:=eq_true p28001
    replace q28001:=eq_true q28001
    refine start_ (n:=8) (S:=fun w'=>w'.cell? (ad28001.add ((x5_1).toNat * 3))=some (.string ((rd_T32 l0 x5_1).f0))∧w'.cell? ⟨(ad28001.add ((x5_1).toNat * 3)).block,(ad28001.add ((x5_1).toNat * 3)).off+1,none⟩=some (.string ((rd_T32 l0 x5_1).f1))∧w'.cell? ⟨(ad28001.add ((x5_1).toNat * 3)).block,(ad28001.add ((x5_1).toNat * 3)).off+2,none⟩=some (.string ((rd_T32 l0 x5_1).f2))) (ds:=[]) #[false,false,false,false,false,false,false,false] (by kernel_rfl) rfl rfl ⟨((HB.out.cell (World.block_lt_of_cell? w _ hw28001_0)).trans hw28001_0),((HB.out.cell (World.block_lt_of_cell? w _ hw28001_1)).trans hw28001_1),((HB.out.cell (World.block_lt_of_cell? w _ hw28001_2)).trans hw28001_2)⟩ (fun hHeld=>?_);refine with_tabW laws_heldValuesS.tab4 laws_heldValuesS.bits4 (fun HT_ HW_=>?_)
    generalize wr.drew=w11 at HB hx28001_0 hx28001_1 hx28001_2 hHeld ⊢
    refine pure_ (i:=0) (N:=some 12) (v:=?_) (a':=?_) #[true,false,false,false,false,false,false,false] rfl rfl (any_of HT_.out (by kernel_rfl)) (fun _ _ _ h=>h) (Or.inl ⟨by rfl,?_⟩) ?_ ?_
    rotate_left
    · intro w'
      go_simp
      exact zr1
    rotate_left
    · simp only [Act.put,zt,zu,zv,i64_w,i32_w]
      rfl
    refine pure_ (i:=1) (N:=some 13) (v:=?_) (a':=?_) #[true,true,false,false,false,false,false,false] rfl rfl (any_of HT_.out (by kernel_rfl)) (fun _ _ _ h=>h) (Or.inl ⟨by rfl,?_⟩) ?_ ?_
    rotate_left
    · intro w'
      go_simp
      exact zr1
    rotate_left
    · simp only [Act.put,zt,zu,zv,i64_w,i32_w]
      rfl
    refine pure_ (i:=2) (N:=some 14) (v:=?_) (a':=?_) #[true,true,true,false,false,false,false,false] rfl rfl (any_of HT_.out (by kernel_rfl)) (fun _ _ _ h=>h) (Or.inl ⟨by rfl,?_⟩) ?_ ?_
    rotate_left
    · intro w'
      go_simp
      exact zr1
    rotate_left
    · simp only [Act.put,zt,zu,zv,i64_w,i32_w]
      rfl
    refine pure_ (i:=3) (N:=some 15) (v:=?_) (a':=?_) #[true,true,true,true,false,false,false,false] rfl rfl (any_of HT_.out (by kernel_rfl)) (fun _ _ _ h=>h) (Or.inl ⟨by rfl,?_⟩) ?_ ?_
    rotate_left
    · intro w'
      go_simp
      exact zr1
    rotate_left
    · simp only [Act.put,zt,zu,zv,i64_w,i32_w]
      rfl
    refine pure_ (i:=5) (N:=some 17) (v:=?_) (a':=?_) #[true,true,true,true,false,true,false,false] rfl rfl (any_of HT_.out (by kernel_rfl)) (fun _ _ _ h=>h) (Or.inl ⟨by rfl,?_⟩) ?_ ?_
    rotate_left
    · intro w'
      go_simp
      exact zr1
    rotate_left
    · simp only [Act.put,zt,zu,zv,i64_w,i32_w]
      rfl
    refine take_ (i:=4) (N:=some 16) (v:=?_) (a':=?_) #[true,true,true,true,true,true,false,false] rfl rfl (take_ofW HT_.out HW_.out (by kernel_rfl)) (fun _ _ _ h=>h) (Or.inl ⟨by rfl,?_⟩) hHeld ?_ ?_
    rotate_left
    · rintro w' ⟨s0,s1,s2⟩
      go_simp
      exact zr1
    rotate_left
    · simp only [Act.put,zt,zu,zv,i64_w,i32_w]
      rfl
    refine one_ (i:=6) (N:=some 18) #[true,true,true,true,true,true,true,false] rfl rfl (one_of HT_.out (by kernel_rfl)) (by decide) (fun K hK=>?_)
    refine goes_ Tryz.func60 (by kernel_rfl) rfl #[.int .i64 x1_1] (by rfl) rfl rfl za4 ?_
    with_reducible refine (laws_markText.calls k1 x1_1 t28002 _ A5.out).mono ?_
    rintro e w12 ⟨rfl,hb⟩
    refine ⟨_,rfl,?_⟩
    have n0_:=zk (below_step za3 hb)
    clear HB
    have HB:=n0_
    clear n0_
    (try clear hb)
    (try clear hb2)
    (try clear hk)
    (try clear hi)
    refine hK.out _ _ ⟨((HB.out.cell (World.block_lt_of_cell? w _ hw28001_0)).trans hw28001_0),((HB.out.cell (World.block_lt_of_cell? w _ hw28001_1)).trans hw28001_1),((HB.out.cell (World.block_lt_of_cell? w _ hw28001_2)).trans hw28001_2)⟩ (fun hHeld=>?_)
    clear hK K
    refine norm_ (a':=?_) ?_ ?_
    rotate_left
    · show Act.put _ (some 18) _=_
      simp only [Act.put,zt,zu,zv,i64_w,i32_w]
      rfl
    refine pure_ (i:=7) (N:=some 19) (v:=?_) (a':=?_) #[true,true,true,true,true,true,true,true] rfl rfl (any_of HT_.out (by kernel_rfl)) (fun _ _ _ h=>h) (Or.inl ⟨by rfl,?_⟩) ?_ ?_
    rotate_left
    · intro w'
      go_simp
      exact zr1
    rotate_left
    · simp only [Act.put,zt,zu,zv,i64_w,i32_w]
      rfl
    refine done_ (done_of HT_.out (by kernel_rfl)) ?_
    try go_wp2
    have n0_:=zk (below_drew1 HB.out)
    clear HB
    have HB:=n0_
    clear n0_
    have p28003:0≤(x5_1:Int):=of_decide_eq_true za8
    have q28003:x5_1 < (l0.length:Int):=of_decide_eq_true za8
    obtain ⟨ad28003,e28003,hx28003_0,hx28003_1,hx28003_2⟩:=at_T32 HR0.out x5_1 p28003 q28003
    have hw28003_2:=hx28003_2
    have hw28003_1:=hx28003_1
    have hw28003_0:=hx28003_0
    obtain rfl:ad28001=ad28003:=(by injection e28003)
    replace hx28003_0:=zx HB.out hx28003_0
    replace hx28003_1:=zx HB.out hx28003_1
    replace hx28003_2:=zx HB.out hx28003_2
    replace p28003:=eq_true p28003
    replace q28003:=eq_true q28003
    refine start_ (n:=8) (S:=fun w'=>w'.cell? (ad28001.add ((x5_1).toNat * 3))=some (.string ((rd_T32 l0 x5_1).f0))∧w'.cell? ⟨(ad28001.add ((x5_1).toNat * 3)).block,(ad28001.add ((x5_1).toNat * 3)).off+1,none⟩=some (.string ((rd_T32 l0 x5_1).f1))∧w'.cell? ⟨(ad28001.add ((x5_1).toNat * 3)).block,(ad28001.add ((x5_1).toNat * 3)).off+2,none⟩=some (.string ((rd_T32 l0 x5_1).f2))) (ds:=[]) #[false,false,false,false,false,false,false,false] (by kernel_rfl) rfl rfl ⟨((HB.out.cell (World.block_lt_of_cell? w _ hw28003_0)).trans hw28003_0),((HB.out.cell (World.block_lt_of_cell? w _ hw28003_1)).trans hw28003_1),((HB.out.cell (World.block_lt_of_cell? w _ hw28003_2)).trans hw28003_2)⟩ (fun hHeld=>?_);refine with_tabW laws_heldValuesS.tab7 laws_heldValuesS.bits7 (fun HT_ HW_=>?_)
    generalize w12.drew=w13 at HB hx28003_0 hx28003_1 hx28003_2 hHeld ⊢
    refine pure_ (i:=0) (N:=some 22) (v:=?_) (a':=?_) #[true,false,false,false,false,false,false,false] rfl rfl (any_of HT_.out (by kernel_rfl)) (fun _ _ _ h=>h) (Or.inl ⟨by rfl,?_⟩) ?_ ?_
    rotate_left
    · intro w'
      go_simp
      exact zr1
    rotate_left
    · simp only [Act.put,zt,zu,zv,i64_w,i32_w]
      rfl
    refine pure_ (i:=1) (N:=some 23) (v:=?_) (a':=?_) #[true,true,false,false,false,false,false,false] rfl rfl (any_of HT_.out (by kernel_rfl)) (fun _ _ _ h=>h) (Or.inl ⟨by rfl,?_⟩) ?_ ?_
    rotate_left
    · intro w'
      go_simp
      exact zr1
    rotate_left
    · simp only [Act.put,zt,zu,zv,i64_w,i32_w]
      rfl
    refine pure_ (i:=2) (N:=some 24) (v:=?_) (a':=?_) #[true,true,true,false,false,false,false,false] rfl rfl (any_of HT_.out (by kernel_rfl)) (fun _ _ _ h=>h) (Or.inl ⟨by rfl,?_⟩) ?_ ?_
    rotate_left
    · intro w'
      go_simp
      exact zr1
    rotate_left
    · simp only [Act.put,zt,zu,zv,i64_w,i32_w]
      rfl
    refine pure_ (i:=3) (N:=some 25) (v:=?_) (a':=?_) #[true,true,true,true,false,false,false,false] rfl rfl (any_of HT_.out (by kernel_rfl)) (fun _ _ _ h=>h) (Or.inl ⟨by rfl,?_⟩) ?_ ?_
    rotate_left
    · intro w'
      go_simp
      exact zr1
    rotate_left
    · simp only [Act.put,zt,zu,zv,i64_w,i32_w]
      rfl
    refine pure_ (i:=5) (N:=some 27) (v:=?_) (a':=?_) #[true,true,true,true,false,true,false,false] rfl rfl (any_of HT_.out (by kernel_rfl)) (fun _ _ _ h=>h) (Or.inl ⟨by rfl,?_⟩) ?_ ?_
    rotate_left
    · intro w'
      go_simp
      exact zr1
    rotate_left
    · simp only [Act.put,zt,zu,zv,i64_w,i32_w]
      rfl
    refine take_ (i:=4) (N:=some 26) (v:=?_) (a':=?_) #[true,true,true,true,true,true,false,false] rfl rfl (take_ofW HT_.out HW_.out (by kernel_rfl)) (fun _ _ _ h=>h) (Or.inl ⟨by rfl,?_⟩) hHeld ?_ ?_
    rotate_left
    · rintro w' ⟨s0,s1,s2⟩
      go_simp
      exact zr1
    rotate_left
    · simp only [Act.put,zt,zu,zv,i64_w,i32_w]
      rfl
    refine one_ (i:=6) (N:=some 28) #[true,true,true,true,true,true,true,false] rfl rfl (one_of HT_.out (by kernel_rfl)) (by decide) (fun K hK=>?_)
    refine goes_ Tryz.func60 (by kernel_rfl) rfl #[.int .i64 (wrap64 (x1_1+1))] (by rfl) rfl rfl za4 ?_
    with_reducible refine (laws_markText.calls k1 (wrap64 (x1_1+1)) t28004 _ A7.out).mono ?_
    rintro e w14 ⟨rfl,hb⟩
    refine ⟨_,rfl,?_⟩
    have n0_:=zk (below_step za3 hb)
    clear HB
    have HB:=n0_
    clear n0_
    (try clear hb)
    (try clear hb2)
    (try clear hk)
    (try clear hi)
    refine hK.out _ _ ⟨((HB.out.cell (World.block_lt_of_cell? w _ hw28003_0)).trans hw28003_0),((HB.out.cell (World.block_lt_of_cell? w _ hw28003_1)).trans hw28003_1),((HB.out.cell (World.block_lt_of_cell? w _ hw28003_2)).trans hw28003_2)⟩ (fun hHeld=>?_)
    clear hK K
    refine norm_ (a':=?_) ?_ ?_
    rotate_left
    · show Act.put _ (some 28) _=_
      simp only [Act.put,zt,zu,zv,i64_w,i32_w]
      rfl
    refine pure_ (i:=7) (N:=some 29) (v:=?_) (a':=?_) #[true,true,true,true,true,true,true,true] rfl rfl (any_of HT_.out (by kernel_rfl)) (fun _ _ _ h=>h) (Or.inl ⟨by rfl,?_⟩) ?_ ?_
    rotate_left
    · intro w'
      go_simp
      exact zr1
    rotate_left
    · simp only [Act.put,zt,zu,zv,i64_w,i32_w]
      rfl
    refine done_ (done_of HT_.out (by kernel_rfl)) ?_
    try go_wp2
    have n0_:=zk (below_drew1 HB.out)
    clear HB
    have HB:=n0_
    clear n0_
    have p28005:0≤(x5_1:Int):=of_decide_eq_true za8
    have q28005:x5_1 < (l0.length:Int):=of_decide_eq_true za8
    obtain ⟨ad28005,e28005,hx28005_0,hx28005_1,hx28005_2⟩:=at_T32 HR0.out x5_1 p28005 q28005
    have hw28005_2:=hx28005_2
    have hw28005_1:=hx28005_1
    have hw28005_0:=hx28005_0
    obtain rfl:ad28001=ad28005:=(by injection e28005)
    replace hx28005_0:=zx HB.out hx28005_0
    replace hx28005_1:=zx HB.out hx28005_1
    replace hx28005_2:=zx HB.out hx28005_2
    replace p28005:=eq_true p28005
    replace q28005:=eq_true q28005
    refine start_ (n:=8) (S:=fun w'=>w'.cell? (ad28001.add ((x5_1).toNat * 3))=some (.string ((rd_T32 l0 x5_1).f0))∧w'.cell? ⟨(ad28001.add ((x5_1).toNat * 3)).block,(ad28001.add ((x5_1).toNat * 3)).off+1,none⟩=some (.string ((rd_T32 l0 x5_1).f1))∧w'.cell? ⟨(ad28001.add ((x5_1).toNat * 3)).block,(ad28001.add ((x5_1).toNat * 3)).off+2,none⟩=some (.string ((rd_T32 l0 x5_1).f2))) (ds:=[]) #[false,false,false,false,false,false,false,false] (by kernel_rfl) rfl rfl ⟨((HB.out.cell (World.block_lt_of_cell? w _ hw28005_0)).trans hw28005_0),((HB.out.cell (World.block_lt_of_cell? w _ hw28005_1)).trans hw28005_1),((HB.out.cell (World.block_lt_of_cell? w _ hw28005_2)).trans hw28005_2)⟩ (fun hHeld=>?_);refine with_tabW laws_heldValuesS.tab10 laws_heldValuesS.bits10 (fun HT_ HW_=>?_)
    generalize w14.drew=w15 at HB hx28005_0 hx28005_1 hx28005_2 hHeld ⊢
    refine pure_ (i:=0) (N:=some 32) (v:=?_) (a':=?_) #[true,false,false,false,false,false,false,false] rfl rfl (any_of HT_.out (by kernel_rfl)) (fun _ _ _ h=>h) (Or.inl ⟨by rfl,?_⟩) ?_ ?_
    rotate_left
    · intro w'
      go_simp
      exact zr1
    rotate_left
    · simp only [Act.put,zt,zu,zv,i64_w,i32_w]
      rfl
    refine pure_ (i:=1) (N:=some 33) (v:=?_) (a':=?_) #[true,true,false,false,false,false,false,false] rfl rfl (any_of HT_.out (by kernel_rfl)) (fun _ _ _ h=>h) (Or.inl ⟨by rfl,?_⟩) ?_ ?_
    rotate_left
    · intro w'
      go_simp
      exact zr1
    rotate_left
    · simp only [Act.put,zt,zu,zv,i64_w,i32_w]
      rfl
    refine pure_ (i:=2) (N:=some 34) (v:=?_) (a':=?_) #[true,true,true,false,false,false,false,false] rfl rfl (any_of HT_.out (by kernel_rfl)) (fun _ _ _ h=>h) (Or.inl ⟨by rfl,?_⟩) ?_ ?_
    rotate_left
    · intro w'
      go_simp
      exact zr1
    rotate_left
    · simp only [Act.put,zt,zu,zv,i64_w,i32_w]
      rfl
    refine pure_ (i:=3) (N:=some 35) (v:=?_) (a':=?_) #[true,true,true,true,false,false,false,false] rfl rfl (any_of HT_.out (by kernel_rfl)) (fun _ _ _ h=>h) (Or.inl ⟨by rfl,?_⟩) ?_ ?_
    rotate_left
    · intro w'
      go_simp
      exact zr1
    rotate_left
    · simp only [Act.put,zt,zu,zv,i64_w,i32_w]
      rfl
    refine pure_ (i:=5) (N:=some 37) (v:=?_) (a':=?_) #[true,true,true,true,false,true,false,false] rfl rfl (any_of HT_.out (by kernel_rfl)) (fun _ _ _ h=>h) (Or.inl ⟨by rfl,?_⟩) ?_ ?_
    rotate_left
    · intro w'
      go_simp
      exact zr1
    rotate_left
    · simp only [Act.put,zt,zu,zv,i64_w,i32_w]
      rfl
    refine take_ (i:=4) (N:=some 36) (v:=?_) (a':=?_) #[true,true,true,true,true,true,false,false] rfl rfl (take_ofW HT_.out HW_.out (by kernel_rfl)) (fun _ _ _ h=>h) (Or.inl ⟨by rfl,?_⟩) hHeld ?_ ?_
    rotate_left
    · rintro w' ⟨s0,s1,s2⟩
      go_simp
      exact zr1
    rotate_left
    · simp only [Act.put,zt,zu,zv,i64_w,i32_w]
      rfl
    refine one_ (i:=6) (N:=some 38) #[true,true,true,true,true,true,true,false] rfl rfl (one_of HT_.out (by kernel_rfl)) (by decide) (fun K hK=>?_)
    refine goes_ Tryz.func60 (by kernel_rfl) rfl #[.int .i64 (wrap64 ((wrap64 (x1_1+1))+1))] (by rfl) rfl rfl za4 ?_
    with_reducible refine (laws_markText.calls k1 (wrap64 ((wrap64 (x1_1+1))+1)) t28006 _ A9.out).mono ?_
    rintro e w16 ⟨rfl,hb⟩
    refine ⟨_,rfl,?_⟩
    have n0_:=zk (below_step za3 hb)
    clear HB
    have HB:=n0_
    clear n0_
    (try clear hb)
    (try clear hb2)
    (try clear hk)
    (try clear hi)
    refine hK.out _ _ ⟨((HB.out.cell (World.block_lt_of_cell? w _ hw28005_0)).trans hw28005_0),((HB.out.cell (World.block_lt_of_cell? w _ hw28005_1)).trans hw28005_1),((HB.out.cell (World.block_lt_of_cell? w _ hw28005_2)).trans hw28005_2)⟩ (fun hHeld=>?_)
    clear hK K
    refine norm_ (a':=?_) ?_ ?_
    rotate_left
    · show Act.put _ (some 38) _=_
      simp only [Act.put,zt,zu,zv,i64_w,i32_w]
      rfl
    refine pure_ (i:=7) (N:=some 39) (v:=?_) (a':=?_) #[true,true,true,true,true,true,true,true] rfl rfl (any_of HT_.out (by kernel_rfl)) (fun _ _ _ h=>h) (Or.inl ⟨by rfl,?_⟩) ?_ ?_
    rotate_left
    · intro w'
      go_simp
      exact zr1
    rotate_left
    · simp only [Act.put,zt,zu,zv,i64_w,i32_w]
      rfl
    refine done_ (done_of HT_.out (by kernel_rfl)) ?_
    try go_wp2
    first
    | (
       clear fin0_
       go_roundg k1
       case measure=>have:=HK1.out;omega
       case rel=>exact ⟨(wrap64 ((wrap64 ((wrap64 (x1_1+1))+1))+1)),(wrap64 (x5_1+1)),za7,za7,H',⟨za15⟩,⟨za3⟩⟩)
    | (
       clear fin1_
       go_ret
       exact ⟨za6,za3⟩)
end Go.Proofs.YtffjfdoghofkdaaGreat.A
-- ALSO loop.example/g00582/laws.markValuesS
-- ALSO loop.example/g00582/laws.heldValuesS
-- ALSO loop.example/g00582/laws.eqValuesS
-- ALSO loop.example/g00582/laws.eqProblem
-- ALSO loop.example/g00582/laws.toProblem
-- ALSO loop.example/g00582/laws.szProblem
-- ALSO loop.example/g00582/spec.ModelsUpTo
-- EXT loop.example/g00582/laws.FnExactModelsUpTo rounds making
namespace Go.Proofs.YtffjfdoghofkdaaGreat.Ext
open Go Go.RowKit YtffjfdoghofkdaaGreatW.PrintWords YtffjfdoghofkdaaGreatW.PrintLast YtffjfdoghofkdaaGreatW.PrintMore YtffjfdoghofkdaaGreat.A
theorem Mk.R {α:Type} {d:Kd α} {e base lo hi:Nat} {W W1:World} {v:Value} {xs:List α} (h:d.R e W base (fun k=>some k=v.ownBlock) v xs) (m:Mk lo hi W W1) (hn:∀ k,v.ownBlock=some k→¬(lo≤k∧k < hi)):d.R e W1 base (fun k=>some k=v.ownBlock) v xs :=
 Kd.R_step h fun k hk hlt=>m.fr k hlt (hn k hk.symm)
structure LawSt (w : World) (lo gX gY : Nat) (A0 : Option Addr) (n0 c0 : Nat) (A5 : Option Addr) (c5 : Nat) (ys : List S67) (d : Nat) (vw : Value) (wr : List S32) (vg : Value) (gr : List S32) (W : World) : Prop where
 b:Below w.heap.size w W
 x:W.heap[gX]? = some (.cells #[.slice A0 n0 c0] 42 (0,0))
 y:W.heap[gY]? = some (.cells #[.slice A5 ys.length c5] 26 (0,0))
 ww:Kd.R k32 32 W w.heap.size (fun k=>some k=vw.ownBlock) vw wr
 wg:Kd.R k32 32 W w.heap.size (fun k=>some k=vg.ownBlock) vg gr
 s:ShC lo gY W (.slice A5 ys.length c5) ys d
 sz:gY < W.heap.size
section
variable {w : World} {lo gX gY : Nat} {A0 : Option Addr} {n0 c0 : Nat} {A5 : Option Addr} {c5 : Nat} {ys : List S67} {d : Nat} {vw : Value} {wr : List S32} {vg : Value} {gr : List S32} {W W1 : World}
theorem LawSt.below (h:LawSt w lo gX gY A0 n0 c0 A5 c5 ys d vw wr vg gr W) (hb:Below W.heap.size W W1):LawSt w lo gX gY A0 n0 c0 A5 c5 ys d vw wr vg gr W1 :=
 ⟨below_step h.b hb,blk_below h.x hb,blk_below h.y hb,Kd.R_below h.ww hb,Kd.R_below h.wg hb,h.s.mk (Mk.below hb),Nat.lt_of_lt_of_le h.sz hb.size⟩
theorem LawSt.drew (h:LawSt w lo gX gY A0 n0 c0 A5 c5 ys d vw wr vg gr W):LawSt w lo gX gY A0 n0 c0 A5 c5 ys d vw wr vg gr W.drew:=h.below (below_drew (Below.refl _ _))
theorem LawSt.drewN (h:LawSt w lo gX gY A0 n0 c0 A5 c5 ys d vw wr vg gr W) (m:Nat):LawSt w lo gX gY A0 n0 c0 A5 c5 ys d vw wr vg gr (W.drewN m):=h.below (pw_below_drewN (Below.refl _ _) m)
theorem LawSt.marked (h:LawSt w lo gX gY A0 n0 c0 A5 c5 ys d vw wr vg gr W) (m:Mk lo gY W W1) (hlo:w.heap.size≤lo) (hX:gX < lo) (hw:∀ k,vw.ownBlock=some k→k < lo) (hg:∀ k,vg.ownBlock=some k→gY < k):LawSt w lo gX gY A0 n0 c0 A5 c5 ys d vw wr vg gr W1 :=
 ⟨m.lw _ _ hlo h.b h.b.size,(m.fr gX (blk_lt h.x) (by omega)).trans h.x,(m.fr gY h.sz (by omega)).trans h.y,Mk.R h.ww m (fun k hk=>by have:=hw k hk;omega),Mk.R h.wg m (fun k hk=>by have:=hg k hk;omega),h.s.mk m,Nat.lt_of_lt_of_le h.sz m.sz⟩
end
structure LawS2 (w : World) (gX : Nat) (A0 : Option Addr) (n0 c0 : Nat) (vw : Value) (wr : List S32) (vg : Value) (gr : List S32) (W : World) : Prop where
 b:Below w.heap.size w W
 x:W.heap[gX]? = some (.cells #[.slice A0 n0 c0] 42 (0,0))
 ww:Kd.R k32 32 W w.heap.size (fun k=>some k=vw.ownBlock) vw wr
 wg:Kd.R k32 32 W w.heap.size (fun k=>some k=vg.ownBlock) vg gr
theorem LawS2.below {w:World} {gX:Nat} {A0:Option Addr} {n0 c0:Nat} {vw:Value} {wr:List S32} {vg:Value} {gr:List S32} {W W1:World} (h:LawS2 w gX A0 n0 c0 vw wr vg gr W) (hb:Below W.heap.size W W1):LawS2 w gX A0 n0 c0 vw wr vg gr W1 :=
 ⟨below_step h.b hb,blk_below h.x hb,Kd.R_below h.ww hb,Kd.R_below h.wg hb⟩
theorem heldVs (k:Nat) (A:Option Addr) (c n:Nat) (l:List S32) (x r:Int) (w:World) (hn:n=l.length) (hr:Kd.C k32 w A l.length l) (hc:n≤c) (h:laws_heldValuesS.f k l x=some r) :
  Calls Tryz.prog 28 #[.slice A n c,.int .i64 x] w fun e w'=>e = .returned (.int .i64 r)∧Below w.heap.size w w':=by
 subst hn
 exact laws_heldValuesS.calls k A c l x r w hr hc h
def laws_FnExactModelsUpTo.f (k:Nat) (l0_0:List S103) (a1:Int):Option Bool :=
 (laws_szProblem.f k l0_0 1048576).bind fun sz=>if sz < 0 then some true else ((laws_toProblem.f k l0_0).bind fun ys=>(spec_ModelsUpTo.f k ys a1).bind fun wr=>(impl_ModelsUpTo.f k ys a1).bind fun gr=>(laws_eqValuesS.f k gr wr).bind fun e1=>(laws_eqProblem.f k ys ys).bind fun e2=>(laws_markValuesS.f k gr 1).bind fun mg=>(laws_heldValuesS.f k mg.2 1).bind fun q =>
  if e1=true∧e2=true∧0≤q∧q=mg.1∧(ys.all fun y=>y.f3.f2.all (htB k))=true∧cntC k ys≤4611686018427387000 then some true else none)
theorem laws_FnExactModelsUpTo.calls (k:Nat) (A0_0:Option Addr) (c0_0:Nat) (l0_0:List S103) (a1:Int) (r:Bool) (w:World) (hr0_0:Kd.C k103 w A0_0 l0_0.length l0_0) (hc0_0:l0_0.length≤c0_0) (h:laws_FnExactModelsUpTo.f k l0_0 a1=some r) (hr_:r=true) :
  Calls Tryz.prog 6 #[.agg #[.slice A0_0 l0_0.length c0_0],.int .i64 a1] w fun e w'=>e = .returned (.bool r)∧Below w.heap.size w w':=by
 subst hr_
 have HR:=zk hr0_0
 have HC:=zk hc0_0
 have HB0:=zk (Below.refl w.heap.size w)
 clear hr0_0 hc0_0
 unfold laws_FnExactModelsUpTo.f at h
 obtain ⟨sz,g0,h⟩:=zo h
 have G0:=zk (fun (W:World) (hB:Below w.heap.size w W)=>laws_szProblem.calls k A0_0 c0_0 l0_0 1048576 sz W (Kd.C_below HR.out hB) HC.out g0)
 have HH:=zk h
 clear g0 h
 go_enter Tryz.func6,Tryz.ntmps6
 go_upto_region 3 with (first
  | ((with_reducible refine gate_dst (N:=2) rfl ?_);refine zE (N:=2) (cs:=#[.slice A0_0 l0_0.length c0_0]) (t:=42) ?_;intro gX hgX w1 hbox hb;have X1:=zk hbox;have B1:=zk (below_step HB0.out hb);have GX:=zk (show w.heap.size≤gX by omega);obtain ⟨x0,x1⟩:=blk1 hbox;clear hb hbox hgX)
  | (go_at_call 19;(with_reducible refine (G0.out _ B1.out).mono ?_);rintro e w2 ⟨rfl,hb⟩;have B2:=zk (below_step B1.out hb);have X2:=zk (blk_below X1.out hb);clear hb x0 x1;obtain ⟨x0,x1⟩:=blk1 X2.out))
 have h:=HH.out
 clear HH
 by_cases hs:sz < 0
 ·have hs0:decide (sz < 0)=true:=decide_eq_true hs
  clear h hs
  go_wp2
  go_ret
  exact ⟨za42,B2.out⟩
 ·have hs0:decide (sz < 0)=false:=decide_eq_false hs
  rw [if_neg hs] at h
  clear hs
  obtain ⟨ys,g1,h⟩:=zo h
  obtain ⟨wr_,g2,h⟩:=zo h
  obtain ⟨gr,g3,h⟩:=zo h
  obtain ⟨e1,g4,h⟩:=zo h
  obtain ⟨e2,g5,h⟩:=zo h
  obtain ⟨⟨mg,gm⟩,g6,h⟩:=zo h
  obtain ⟨q,g7,h⟩:=zo h
  dsimp only at g7 h
  split at h
  ·next hh =>
   obtain ⟨rfl,rfl,hq0,rfl,hht,hcnt⟩:=hh
   have T1:=zk (fun (W:World) (hB:Below w.heap.size w W)=>laws_toProblem.calls k A0_0 c0_0 l0_0 ys W (Kd.C_below HR.out hB) HC.out g1)
   have G2:=zk g2
   have G3:=zk g3
   have G4:=zk g4
   have G5:=zk g5
   have G6:=zk g6
   have G7:=zk g7
   have HT:=zk hht
   have HN:=zk hcnt
   have HQ:=zk hq0
   have q0:decide (q < 0)=false:=decide_eq_false (by omega)
   have q1:(q != q)=false:=by simp
   have q2:decide (q ≠ q)=false:=by simp
   clear g1 g2 g3 g4 g5 g6 g7 hht hcnt hq0 h
   go_upto_region 6 with (first
    | (go_at_call 21;(with_reducible refine (T1.out _ B2.out).mono ?_);rintro e w3 ⟨v3,rfl,hr3,hb⟩;obtain ⟨A3,c3,e3⟩:=Kd.R_slice hr3;subst e3;have R3:=zk hr3;have B3:=zk (below_step B2.out hb);have X3:=zk (blk_below X2.out hb);clear hb hr3 x0 x1;obtain ⟨x0,x1⟩:=blk1 X3.out)
    | (go_at_call 10;(with_reducible refine (spec_ModelsUpTo.calls k _ _ ys a1 wr_ _ ?s1 ?s2 G2.out).mono ?_);(case s1=>exact (Kd.R_reads' R3.out).2.2);(case s2=>exact (Kd.R_reads' R3.out).2.1);rintro e w4 ⟨v4,rfl,hr4,hb⟩;obtain ⟨A4,c4,e4⟩:=Kd.R_slice hr4;subst e4;have W4:=zk (Kd.R_tight rfl (Kd.R_lower hr4 B3.out.size));have B4:=zk (below_step B3.out hb);have X4:=zk (blk_below X3.out hb);clear hb hr4 x0 x1 R3;obtain ⟨x0,x1⟩:=blk1 X4.out))
   go_upto_region 7 with (go_at_call 21;(with_reducible refine (T1.out _ B4.out).mono ?_);rintro e w5 ⟨v5,rfl,hr5,hb⟩;obtain ⟨A5,c5,e5⟩:=Kd.R_slice hr5;subst e5;have R5:=zk hr5;have B5:=zk (below_step B4.out hb);have X5:=zk (blk_below X4.out hb);have W5:=zk (Kd.R_below W4.out hb);have BE:=zk hb;clear hb hr5 x0 x1;obtain ⟨x0,x1⟩:=blk1 X5.out)
   obtain ⟨w6,hw6⟩:∃ w6,w5.alloc (.cells #[.slice A5 ys.length c5] 26)=w6:=⟨_,rfl⟩
   obtain ⟨gY,hgY⟩:∃ gY,w5.heap.size=gY:=⟨_,rfl⟩
   have hba:Below w5.heap.size w5 w6:=by rw [← hw6];exact below_alloc (Below.refl _ _) _
   have Y6:Aside0 (w6.heap[gY]? = some (.cells #[.slice A5 ys.length c5] 26 (0,0))):=⟨by rw [← hw6,← hgY];exact blk_new _ _⟩
   have X6:=zk (blk_below X5.out hba)
   have W6:=zk (Kd.R_below W5.out hba)
   have R6:=zk (Kd.R_below R5.out hba)
   have B6:=zk (below_step B5.out hba)
   have S6:Aside0 (ShC w4.heap.size gY w6 (.slice A5 ys.length c5) ys k):=⟨(ShC_of_R (Nat.le_of_eq hgY) k ys _ _ HT.out R5.out).mk (Mk.below hba)⟩
   have L4:Aside0 (w.heap.size≤w4.heap.size):=⟨B4.out.size⟩
   have LX:Aside0 (gX < w4.heap.size):=⟨blk_lt X4.out⟩
   have L5:Aside0 (w4.heap.size≤gY):=⟨by rw [← hgY];exact BE.out.size⟩
   have LW:Aside0 (∀ k,(Value.slice A4 wr_.length c4).ownBlock=some k→k < w4.heap.size):=⟨Kd.R_lt W4.out⟩
   have Z6:Aside0 (gY < w6.heap.size):=⟨blk_lt Y6.out⟩
   rw [hw6,hgY]
   clear hw6 hgY hba x0 x1 X5 W5 R5 B5 BE X1 X2 X3 X4 W4 B1 B2 B3
   obtain ⟨x0,x1⟩:=blk1 X6.out
   obtain ⟨y0,y1⟩:=blk1 Y6.out
   go_upto_region 8 with (go_at_call 9;(with_reducible refine (impl_ModelsUpTo.calls k _ _ ys a1 gr _ ?s1 ?s2 G3.out).mono ?_);(case s1=>exact (Kd.R_reads' R6.out).2.2);(case s2=>exact (Kd.R_reads' R6.out).2.1);rintro e w7 ⟨v7,rfl,hr7,hb⟩;obtain ⟨A7,c7,e7⟩:=Kd.R_slice hr7;subst e7;have LG:Aside0 (∀ k,(Value.slice A7 gr.length c7).ownBlock=some k→gY < k):=⟨fun k hk=>Nat.lt_of_lt_of_le Z6.out (Kd.R_base hr7 k hk)⟩;have P7:Aside0 (LawSt w w4.heap.size gX gY A0_0 l0_0.length c0_0 A5 c5 ys k (.slice A4 wr_.length c4) wr_ (.slice A7 gr.length c7) gr w7):=⟨⟨below_step B6.out hb,blk_below X6.out hb,blk_below Y6.out hb,Kd.R_below W6.out hb,Kd.R_tight rfl (Kd.R_lower hr7 B6.out.size),S6.out.mk (Mk.below hb),Nat.lt_of_lt_of_le Z6.out hb.size⟩⟩;have R7:=zk (Kd.R_below R6.out hb);clear hb hr7 x0 x1 y0 y1;obtain ⟨x0,x1⟩:=blk1 P7.out.x;obtain ⟨y0,y1⟩:=blk1 P7.out.y)
   clear X6 Y6 W6 R6 B6 S6
   go_upto_region 10 with (go_at_call 25;(with_reducible refine (laws_eqValuesS.calls k _ _ gr _ _ wr_ true _ ?s1 ?s2 ?s3 ?s4 G4.out).mono ?_);(case s1=>exact (Kd.R_reads' P7.out.wg).2.2);(case s2=>exact (Kd.R_reads' P7.out.wg).2.1);(case s3=>exact (Kd.R_reads' P7.out.ww).2.2);(case s4=>exact (Kd.R_reads' P7.out.ww).2.1);rintro e w8 ⟨rfl,hb⟩;have P8:=zk (P7.out.below hb);have R8:=zk (Kd.R_below R7.out hb);clear hb x0 x1 y0 y1;obtain ⟨x0,x1⟩:=blk1 P8.out.x;obtain ⟨y0,y1⟩:=blk1 P8.out.y)
   clear P7 R7
   have PC:=P8
   have RC:=R8
   clear P8 R8
   go_region_held3 (fun w'=>w'.cell? ⟨gX,0,none⟩=some (.slice A0_0 l0_0.length c0_0)∧w'.cell? ⟨gY,0,none⟩=some (.slice A5 ys.length c5)) (go_keep) (first
    | (go_at_call 21;(with_reducible refine (T1.out _ (by first|exact PC.out.b|exact PC.out.drew.b|exact (PC.out.drewN _).b)).mono ?_);rintro e w9 ⟨v9,rfl,hr9,hb⟩;obtain ⟨A9,c9,e9⟩:=Kd.R_slice hr9;subst e9;have R9:=zk hr9;have n1:Aside0 (LawSt w w4.heap.size gX gY A0_0 l0_0.length c0_0 A5 c5 ys k (.slice A4 wr_.length c4) wr_ (.slice A7 gr.length c7) gr w9):=⟨by first|exact PC.out.below hb|exact PC.out.drew.below hb|exact (PC.out.drewN _).below hb⟩;have n2:Aside0 (Kd.R k67 67 w9 w4.heap.size (fun _=>True) (.slice A5 ys.length c5) ys):=⟨by first|exact Kd.R_below RC.out hb|exact Kd.R_below (Kd.R_drew RC.out) hb|exact Kd.R_below (Kd.R_drewN RC.out _) hb⟩;clear hb hr9 PC RC x0 x1 y0 y1;have PC:=n1;have RC:=n2;clear n1 n2;obtain ⟨x0,x1⟩:=blk1 PC.out.x;obtain ⟨y0,y1⟩:=blk1 PC.out.y)
    | (go_at_call 23;(with_reducible refine (laws_eqProblem.calls k _ _ ys _ _ ys true _ ?s1 ?s2 ?s3 ?s4 G5.out).mono ?_);(case s1=>first|exact (Kd.R_reads' RC.out).2.2|exact (Kd.R_reads' (Kd.R_drew RC.out)).2.2|exact (Kd.R_reads' (Kd.R_drewN RC.out _)).2.2);(case s2=>exact (Kd.R_reads' RC.out).2.1);(case s3=>first|exact (Kd.R_reads' R9.out).2.2|exact (Kd.R_reads' (Kd.R_drew R9.out)).2.2|exact (Kd.R_reads' (Kd.R_drewN R9.out _)).2.2);(case s4=>exact (Kd.R_reads' R9.out).2.1);rintro e w10 ⟨rfl,hb⟩;have n1:Aside0 (LawSt w w4.heap.size gX gY A0_0 l0_0.length c0_0 A5 c5 ys k (.slice A4 wr_.length c4) wr_ (.slice A7 gr.length c7) gr w10):=⟨by first|exact PC.out.below hb|exact PC.out.drew.below hb|exact (PC.out.drewN _).below hb⟩;clear hb PC RC R9 x0 x1 y0 y1;have PC:=n1;clear n1;obtain ⟨x0,x1⟩:=blk1 PC.out.x;obtain ⟨y0,y1⟩:=blk1 PC.out.y))
   clear x0 x1 y0 y1
   obtain ⟨x0,x1⟩:=blk1 PC.out.x
   obtain ⟨y0,y1⟩:=blk1 PC.out.y
   go_upto_region 14 with (go_at_call 26;(with_reducible refine (mark_problem w4.heap.size gY ⟨markText_all⟩ k ys _ 1 _ (Nat.le_of_lt PC.out.sz) PC.out.s (by omega) za17).mono ?_);rintro e w11 ⟨r1,rfl,hr1,hm⟩;have P11:=zk (PC.out.marked hm L4.out LX.out LW.out LG.out);have r0:decide (r1 < 0)=false:=decide_eq_false (by omega);clear hm hr1 x0 x1 y0 y1;obtain ⟨x0,x1⟩:=blk1 P11.out.x)
   clear PC
   go_upto_region 17 with (go_at_call 25;(with_reducible refine (laws_eqValuesS.calls k _ _ gr _ _ wr_ true _ ?s1 ?s2 ?s3 ?s4 G4.out).mono ?_);(case s1=>exact (Kd.R_reads' P11.out.wg).2.2);(case s2=>exact (Kd.R_reads' P11.out.wg).2.1);(case s3=>exact (Kd.R_reads' P11.out.ww).2.2);(case s4=>exact (Kd.R_reads' P11.out.ww).2.1);rintro e w12 ⟨rfl,hb⟩;have P12:=zk (P11.out.below hb);clear hb x0 x1;obtain ⟨x0,x1⟩:=blk1 P12.out.x)
   clear P11
   go_upto_region 19 with (go_at_call 27;(with_reducible refine (laws_markValuesS.calls k (fun k_=>some k_=(Value.slice A7 gr.length c7).ownBlock) _ gr 1 q gm w _ P12.out.b P12.out.wg G6.out).mono ?_);rintro e w13 ⟨rfl,hr13,hb,hk⟩;have P13:Aside0 (LawS2 w gX A0_0 l0_0.length c0_0 (.slice A4 wr_.length c4) wr_ (.slice A7 gr.length c7) gm w13):=⟨⟨hb,blk_kept P12.out.x hk (fun e=>Kd.R_ne P12.out.wg P12.out.x (by decide) e),Kd.R_kept P12.out.ww hk (fun k_ h1 h2=>by have a1:=LW.out k_ h1.symm;have a2:=LG.out k_ h2.symm;have:=L5.out;omega),Kd.R_tight rfl hr13⟩⟩;have EL:=zk (Kd.R_reads' hr13).1;clear hb hr13 hk x0 x1;obtain ⟨x0,x1⟩:=blk1 P13.out.x)
   clear P12
   go_upto_region 24 with (go_at_call 28;(with_reducible refine (heldVs k _ _ _ gm 1 q _ EL.out (Kd.R_reads' P13.out.wg).2.2 (Kd.R_reads' P13.out.wg).2.1 G7.out).mono ?_);rintro e w14 ⟨rfl,hb⟩;have P14:=zk (P13.out.below hb);clear hb x0 x1;obtain ⟨x0,x1⟩:=blk1 P14.out.x)
   clear P13
   go_upto_region 25 with (first
    | (go_at_call 21;(with_reducible refine (T1.out _ P14.out.b).mono ?_);rintro e w15 ⟨v15,rfl,hr15,hb⟩;obtain ⟨A15,c15,e15⟩:=Kd.R_slice hr15;subst e15;have R15:=zk hr15;have P15:=zk (P14.out.below hb);clear hb hr15 x0 x1)
    | (go_at_call 9;(with_reducible refine (impl_ModelsUpTo.calls k _ _ ys a1 gr _ ?s1 ?s2 G3.out).mono ?_);(case s1=>exact (Kd.R_reads' R15.out).2.2);(case s2=>exact (Kd.R_reads' R15.out).2.1);rintro e w16 ⟨v16,rfl,hr16,hb⟩;obtain ⟨A16,c16,e16⟩:=Kd.R_slice hr16;subst e16;have R16:=zk hr16;have P16:=zk (P15.out.below hb);clear hb hr16))
   go_upto_region 28 with (go_at_call 25;(with_reducible refine (laws_eqValuesS.calls k _ _ gr _ _ wr_ true _ ?s1 ?s2 ?s3 ?s4 G4.out).mono ?_);(case s1=>exact (Kd.R_reads' R16.out).2.2);(case s2=>exact (Kd.R_reads' R16.out).2.1);(case s3=>exact (Kd.R_reads' P16.out.ww).2.2);(case s4=>exact (Kd.R_reads' P16.out.ww).2.1);rintro e w17 ⟨rfl,hb⟩;have P17:=zk (P16.out.below hb);clear hb)
   go_wp2_with (go_at_call 28;(with_reducible refine (heldVs k _ _ _ gm 1 q _ EL.out (Kd.R_reads' P17.out.wg).2.2 (Kd.R_reads' P17.out.wg).2.1 G7.out).mono ?_);rintro e w18 ⟨rfl,hb⟩;have P18:=zk (P17.out.below hb);clear hb)
   go_ret
   exact ⟨za42,P18.out.b⟩
  ·cases h
end Go.Proofs.YtffjfdoghofkdaaGreat.Ext
namespace Go.Proofs.YtffjfdoghofkdaaGreat.Br
open Go YtffjfdoghofkdaaGreatW.PrintWords
def BrN (P:Program) (n:Nat) (t:TypeId) {α:Type} (d:Kd α) (wf:α→Prop):Prop :=
 ∀ (H:Type) (enc:TypeId × Value→H) (w:World) (base:Nat) (spare:Nat→Bool) (held:Bool) (m:Nat) (cs:List Value) (x:DataW H × List MemPlace),
  m≤n→DataW.trod enc P w base spare held m t cs=some x→∃ a,d.K w a cs∧wf a
def Br (P:Program) (t:TypeId) {α:Type} (d:Kd α) (wf:α→Prop):Prop:=∀ n,BrN P n t d wf
def BF (P:Program) (n:Nat) (fs:List Field) (o:Nat) {α:Type} (d:Kd α) (wf:α→Prop):Prop :=
 ∀ (H:Type) (enc:TypeId × Value→H) (w:World) (base:Nat) (spare:Nat→Bool) (held:Bool) (m:Nat) (cs:List Value) (xs:List (DataW H × List MemPlace)),
  m≤n→cs.length=d.sz→xs.length=fs.length →
  (∀ (i:Nat) (f:Field),fs[i]? = some f→DataW.trod enc P w base spare held m f.type ((cs.drop (f.offset - o)).take (P.cellsOf f.type))=xs[i]?)→∃ a,d.K w a cs∧wf a
theorem BrN.mono {P:Program} {n m:Nat} {t:TypeId} {α:Type} {d:Kd α} {wf:α→Prop} (h:BrN P n t d wf) (hm:m≤n):BrN P m t d wf :=
 fun H enc w base spare held k cs x hk=>h H enc w base spare held k cs x (Nat.le_trans hk hm)
theorem BrN.imp {P:Program} {n:Nat} {t:TypeId} {α:Type} {d:Kd α} {wf wf':α→Prop} (h:BrN P n t d wf) (hi:∀ a,wf a→wf' a):BrN P n t d wf' :=
 fun H enc w base spare held k cs x hk hx=>by
  obtain ⟨a,h1,h2⟩:=h H enc w base spare held k cs x hk hx
  exact ⟨a,h1,hi a h2⟩
theorem BrN.zero (P:Program) (t:TypeId) {α:Type} (d:Kd α) (wf:α→Prop):BrN P 0 t d wf:=by
 intro H enc w base spare held m cs x hm hx
 obtain rfl:m=0:=by omega
 simp [DataW.trod] at hx
theorem br_int {P:Program} {t:TypeId} {k:IntKind} (ht:P.underlying t=some (.int k)) (n:Nat):BrN P n t (Kd.int k) (fun a=>(Lit.int k a).wf=true):=by
 intro H enc w base spare held m cs x _ hx
 obtain ⟨a,rfl,_,hw⟩:=DataW.trod_int ht hx
 exact ⟨a,rfl,hw⟩
theorem br_string {P:Program} {t:TypeId} (ht:P.underlying t=some .string) (n:Nat):BrN P n t Kd.string (fun s=>s.size≤9223372036854775807):=by
 intro H enc w base spare held m cs x _ hx
 obtain ⟨a,rfl,_,hw⟩:=DataW.trod_string ht hx
 exact ⟨a,rfl,by simpa [maxLen] using hw⟩
theorem list_of_all {α:Type} {Q:Nat→α→Prop} (n:Nat) (h:∀ i,i < n→∃ a,Q i a):∃ l:List α,l.length=n∧∀ i a,l[i]? = some a→Q i a:=by
 induction n with
 | zero=>exact ⟨[],rfl,fun i a h=>by simp at h⟩
 | succ n ih =>
  obtain ⟨l,hl,hq⟩:=ih (fun i hi=>h i (by omega))
  obtain ⟨a,ha⟩:=h n (by omega)
  refine ⟨l ++ [a],by simp [hl],fun i b hb=>?_⟩
  rcases Nat.lt_or_ge i l.length with hi|hi
  ·rw [List.getElem?_append_left hi] at hb
   exact hq i b hb
  ·rw [List.getElem?_append_right hi] at hb
   obtain ⟨h0,rfl⟩:i - l.length=0∧a=b:=by
    rcases Nat.eq_zero_or_pos (i - l.length) with h0|h0
    ·rw [h0] at hb;exact ⟨h0,by simpa using hb⟩
    ·rw [List.getElem?_eq_none (by simp;omega)] at hb;simp at hb
   obtain rfl:i=n:=by omega
   exact ha
theorem cells_at {w:World} {base:Nat} {a:Addr} {n:Nat} {cs:List Value} (h:w.cells? base a n=some cs):cs.length=n∧∀ i u,cs[i]? = some u→w.cell? (a.add i)=some u:=by
 unfold World.cells? at h
 split at h
 ·have hl:=mapM_some_length h
  refine ⟨by simpa using hl,fun i u hu=>?_⟩
  have hi:i < n:=by
   have:=(List.getElem?_eq_some_iff.1 hu).1
   simp at hl
   omega
  have:=mapM_some_get h i i (by simp [hi])
  rw [this,hu]
 ·simp at h
theorem br_slice {P:Program} {t e:TypeId} {α:Type} {d:Kd α} {wf:α→Prop} {n:Nat} (ht:P.underlying t=some (.slice e)) (hs:P.cellsOf e=d.sz) (h:BrN P n e d wf) :
  BrN P (n+1) t (Kd.slice e d) (fun l=>l.length≤9223372036854775807∧∀ a ∈ l,wf a):=by
 intro H enc w base spare held m cs x hm hx
 rcases DataW.trod_slice ht hx with ⟨rfl,_⟩|⟨a,len,cap,elems,rest,k,rfl,rfl,_,_,hl,hc,he,hg,_,_⟩
 ·exact ⟨[],⟨none,0,rfl,Nat.le_refl _,Kd.C_nil d w⟩,by simp,by simp⟩
 ·have hq:∀ i,i < len→∃ b,(∃ c,c.length=d.sz∧d.K w b c∧∀ j u,c[j]? = some u→w.cell? (a.add (i * d.sz+j))=some u)∧wf b:=by
   intro i hi
   have g:=hg i hi
   rw [List.getElem?_eq_getElem (by omega)] at g
   obtain ⟨c,hc1,hc2⟩:=Option.bind_eq_some_iff.1 g
   obtain ⟨b,hb,hw⟩:=h H enc w base spare held k c _ (by omega) hc2
   obtain ⟨h1,h2⟩:=cells_at hc1
   refine ⟨b,⟨c,by rw [h1,hs],hb,fun j u hu=>?_⟩,hw⟩
   have:=h2 j u hu
   rw [Addr.add_add,hs] at this
   exact this
  obtain ⟨l,hl1,hl2⟩:=list_of_all len hq
  have hlen:len≤9223372036854775807:=by simp only [maxLen] at hc;omega
  refine ⟨l,⟨some a,cap,by rw [hl1],by omega,rfl,by omega,fun _=>⟨a,rfl,fun j p hp=>(hl2 j p hp).1⟩⟩,by omega,fun b hb=>?_⟩
  obtain ⟨i,hi,rfl⟩:=List.mem_iff_getElem.1 hb
  exact (hl2 i _ (List.getElem?_eq_getElem hi)).2
theorem br_slice' {P:Program} {t e:TypeId} {α:Type} {d:Kd α} {wf:α→Prop} (ht:P.underlying t=some (.slice e)) (hs:P.cellsOf e=d.sz) (h:∀ n,BrN P n e d wf) (n:Nat) :
 BrN P n t (Kd.slice e d) (fun l=>l.length≤9223372036854775807∧∀ a ∈ l,wf a):=(br_slice ht hs (h n)).mono (Nat.le_succ n)
theorem bf_one {P:Program} {n o:Nat} {f:Field} {α:Type} {d:Kd α} {wf:α→Prop} (ho:f.offset=o) (hs:P.cellsOf f.type=d.sz) (h:BrN P n f.type d wf):BF P n [f] o d wf:=by
 intro H enc w base spare held m cs xs hm hl hx hf
 have g:=hf 0 f rfl
 rw [ho,Nat.sub_self,List.drop_zero,hs,← hl,List.take_length,List.getElem?_eq_getElem (by simp at hx;omega)] at g
 exact h H enc w base spare held m cs _ hm g
theorem bf_cons {P:Program} {n o:Nat} {f:Field} {fs:List Field} {α β:Type} {d:Kd α} {d':Kd β} {wf:α→Prop} {wf':β→Prop} (ho:f.offset=o) (hs:P.cellsOf f.type=d.sz) (h:BrN P n f.type d wf)
  (hfs:BF P n fs (o+d.sz) d' wf') (hle:∀ g ∈ fs,o+d.sz≤g.offset):BF P n (f :: fs) o (Kd.pair d d') (fun x=>wf x.1∧wf' x.2):=by
 intro H enc w base spare held m cs xs hm hl hx hf
 have hl':cs.length=d.sz+d'.sz:=hl
 have g:=hf 0 f rfl
 rw [ho,Nat.sub_self,List.drop_zero,hs,List.getElem?_eq_getElem (by simp at hx;omega)] at g
 obtain ⟨a,ha,hwa⟩:=h H enc w base spare held m _ _ hm g
 cases xs with
 | nil=>simp at hx
 | cons y ys =>
  obtain ⟨b,hb,hwb⟩:=hfs H enc w base spare held m (cs.drop d.sz) ys hm (by rw [List.length_drop];omega) (by simpa using hx) (fun i q hq=>by
   have g2:=hf (i+1) q (by simpa using hq)
   have hm:q ∈ fs:=List.mem_of_getElem? hq
   have:=hle q hm
   rw [List.drop_drop,show d.sz+(q.offset - (o+d.sz))=q.offset - o by omega]
   simpa using g2)
  exact ⟨(a,b),⟨cs.take d.sz,cs.drop d.sz,(List.take_append_drop _ _).symm,ha,hb⟩,hwa,hwb⟩
theorem br_struct {P:Program} {t:TypeId} {fs:Array Field} {α:Type} {d:Kd α} {wf:α→Prop} {n:Nat} (ht:P.underlying t=some (.struct fs)) (hs:P.cellsOf t=d.sz) (h:BF P n fs.toList 0 d wf):BrN P (n+1) t d wf:=by
 intro H enc w base spare held m cs x hm hx
 obtain ⟨xs,k,rfl,_,hl,hxs,hf⟩:=DataW.trod_struct ht hx
 exact h H enc w base spare held k cs xs (by omega) (by rw [hl,hs]) (by simpa using hxs) (fun i f hi=>by simpa using hf i f (by simpa using hi))
theorem br_struct' {P:Program} {t:TypeId} {fs:Array Field} {α:Type} {d:Kd α} {wf:α→Prop} (ht:P.underlying t=some (.struct fs)) (hs:P.cellsOf t=d.sz) (h:∀ n,BF P n fs.toList 0 d wf) (n:Nat):BrN P n t d wf :=
 (br_struct ht hs (h n)).mono (Nat.le_succ n)
theorem br_iso {P:Program} {n:Nat} {t:TypeId} {α β:Type} {d:Kd α} {wf:α→Prop} {f:β→α} (g:α→β) (hg:∀ y,f (g y)=y) (h:BrN P n t d wf):BrN P n t (Kd.iso d f) (fun x=>wf (f x)):=by
 intro H enc w base spare held m cs x hm hx
 obtain ⟨a,h1,h2⟩:=h H enc w base spare held m cs x hm hx
 exact ⟨g a,by show d.K w (f (g a)) cs;rw [hg];exact h1,by show wf (f (g a));rw [hg];exact h2⟩
theorem br_fix {P:Program} {t:TypeId} {α:Type} {F:Kd α→Kd α} {sz:Nat} {E:List Nat} {hs:∀ n,(Kd.upto F sz E n).sz=sz} {hE:∀ n q,q ∈ (Kd.upto F sz E n).E→q ∈ E} {wf:Nat→α→Prop}
  (h:∀ n,BrN P n t (Kd.upto F sz E n) (wf n)) (n:Nat):BrN P n t (Kd.fix F sz E hs hE) (fun a=>∃ k,wf k a):=by
 intro H enc w base spare held m cs x hm hx
 obtain ⟨a,h1,h2⟩:=h n H enc w base spare held m cs x hm hx
 exact ⟨a,⟨n,h1⟩,n,h2⟩
theorem arr_of {xs:Array Value} {l:List Value} (h:xs.toList=l):xs=l.toArray:=by rw [← h]
end Go.Proofs.YtffjfdoghofkdaaGreat.Br
namespace Go.Proofs.YtffjfdoghofkdaaGreat.BtFnExactModelsUpTo
open Go Go.RowKit YtffjfdoghofkdaaGreat.A YtffjfdoghofkdaaGreat.Br YtffjfdoghofkdaaGreatW.PrintWords
def wf101N:Nat→S101→Prop
 | 0,_=>False
 | n+1,x=>((Lit.int .i64 x.f0).wf=true)∧((x.f1:ByteArray).size≤9223372036854775807)∧((x.f2:(List S101)).length≤9223372036854775807∧∀ a ∈ x.f2,wf101N n a)
def wf101 (x:S101):Prop:=∃ n,wf101N n x
theorem br101N:∀ n,BrN Tryz.prog n 101 (Kd.upto F101 3 [101] n) (wf101N n)
 | 0=>BrN.zero _ _ _ _
 | n+1=>by
  have ih:=br101N n
  exact (br_iso (f:=(fun x:S101=>(x.f0,x.f1,x.f2))) (fun y=>⟨y.1,y.2.1,y.2.2⟩) (fun _=>rfl) (br_struct Tryz.underlying101 (show Tryz.prog.cellsOf 101=3 by kernel_rfl) (bf_cons rfl (show Tryz.prog.cellsOf 3=1 by kernel_rfl) (br_int Tryz.underlying3 n) (bf_cons rfl (show Tryz.prog.cellsOf 9=1 by kernel_rfl) (br_string Tryz.underlying9 n) (bf_one rfl (show Tryz.prog.cellsOf 99=1 by kernel_rfl) ((br_slice Tryz.underlying99 (show Tryz.prog.cellsOf 101=(Kd.upto F101 3 [101] n).sz by rw [sz101];kernel_rfl) ih).mono (Nat.le_succ n))) (of_decide_eq_true (by kernel_rfl))) (of_decide_eq_true (by kernel_rfl))))).imp (fun _ h=>h)
theorem br101 (n:Nat):BrN Tryz.prog n 101 k101 wf101:=br_fix br101N n
def wf103 (x:S103):Prop:=((Lit.int .i64 x.f0).wf=true)∧((x.f1:ByteArray).size≤9223372036854775807)∧((x.f2:ByteArray).size≤9223372036854775807)∧(wf101 x.f3)∧((x.f4:(List Int)).length≤9223372036854775807∧∀ a ∈ x.f4,(Lit.int .i64 a).wf=true)∧((Lit.int .i64 x.f5).wf=true)
theorem br103 (n:Nat):BrN Tryz.prog n 103 k103 wf103 :=
 (br_iso (f:=(fun x:S103=>(x.f0,x.f1,x.f2,x.f3,x.f4,x.f5))) (fun y=>⟨y.1,y.2.1,y.2.2.1,y.2.2.2.1,y.2.2.2.2.1,y.2.2.2.2.2⟩) (fun _=>rfl) (br_struct' Tryz.underlying103 (show Tryz.prog.cellsOf 103=8 by kernel_rfl) (fun n=>(bf_cons rfl (show Tryz.prog.cellsOf 3=1 by kernel_rfl) (br_int Tryz.underlying3 n) (bf_cons rfl (show Tryz.prog.cellsOf 9=1 by kernel_rfl) (br_string Tryz.underlying9 n) (bf_cons rfl (show Tryz.prog.cellsOf 9=1 by kernel_rfl) (br_string Tryz.underlying9 n) (bf_cons rfl (show Tryz.prog.cellsOf 101=3 by kernel_rfl) (br101 n) (bf_cons rfl (show Tryz.prog.cellsOf 59=1 by kernel_rfl) (br_slice' Tryz.underlying59 (show Tryz.prog.cellsOf 3=1 by kernel_rfl) (fun n=>(br_int Tryz.underlying3 n)) n) (bf_one rfl (show Tryz.prog.cellsOf 3=1 by kernel_rfl) (br_int Tryz.underlying3 n)) (of_decide_eq_true (by kernel_rfl))) (of_decide_eq_true (by kernel_rfl))) (of_decide_eq_true (by kernel_rfl))) (of_decide_eq_true (by kernel_rfl))) (of_decide_eq_true (by kernel_rfl)))) n)).imp (fun _ h=>h)
end Go.Proofs.YtffjfdoghofkdaaGreat.BtFnExactModelsUpTo
namespace Go.Proofs.YtffjfdoghofkdaaGreat.Pure
open Go Go.RowKit YtffjfdoghofkdaaGreat.Br YtffjfdoghofkdaaGreatW.PrintWords YtffjfdoghofkdaaGreatW.PrintLast YtffjfdoghofkdaaGreat.A YtffjfdoghofkdaaGreat.Ext YtffjfdoghofkdaaGreat.BtFnExactModelsUpTo
def FnExactModelsUpTo.Pure:Prop:=∀ (l0_0:(List S103)) (a1:Int),((l0_0:(List S103)).length≤9223372036854775807∧∀ a ∈ l0_0,wf103 a)→((Lit.int .i64 a1).wf=true)→∃ k,laws_FnExactModelsUpTo.f k l0_0 a1=some true
end Go.Proofs.YtffjfdoghofkdaaGreat.Pure
namespace Go.Proofs.YtffjfdoghofkdaaGreat.Pl
open Go.RowKit YtffjfdoghofkdaaGreatW.PrintWords
def Evt {α:Type} (g:Nat→Option α) (r:α):Prop:=∃ K,∀ k,K≤k→g k=some r
section
variable {α β : Type}
theorem Evt.const {g:Option α} {r:α} (h:g=some r):Evt (fun _=>g) r:=⟨0,fun _ _=>h⟩
theorem Evt.ret (r:α):Evt (fun _=>some r) r:=Evt.const rfl
theorem Evt.bind {g:Nat→Option α} {f:Nat→α→Option β} {a:α} {r:β} (hg:Evt g a) (hf:Evt (fun k=>f k a) r):Evt (fun k=>(g k).bind (f k)) r:=by
 obtain ⟨K,hK⟩:=hg
 obtain ⟨L,hL⟩:=hf
 exact ⟨max K L,fun k hk=>by show (g k).bind (f k)=some r;rw [hK k (by omega)];exact hL k (by omega)⟩
theorem Evt.bindc {g:Option α} {f:Nat→α→Option β} {a:α} {r:β} (hg:g=some a) (hf:Evt (fun k=>f k a) r):Evt (fun k=>g.bind (f k)) r:=Evt.bind (Evt.const hg) hf
theorem Evt.step {g:Nat→Option α} {r:α} (h:Evt (fun k=>g (k+1)) r):Evt g r:=by
 obtain ⟨K,hK⟩:=h
 exact ⟨K+1,fun k hk=>by
  obtain ⟨m,rfl⟩:∃ m,k=m+1:=⟨k - 1,by omega⟩
  exact hK m (by omega)⟩
theorem Evt.pos {c:Prop} [Decidable c] {t e:Nat→Option α} {r:α} (h:c) (ht:Evt t r):Evt (fun k=>if c then t k else e k) r:=by
 obtain ⟨K,hK⟩:=ht
 exact ⟨K,fun k hk=>(if_pos h).trans (hK k hk)⟩
theorem Evt.neg {c:Prop} [Decidable c] {t e:Nat→Option α} {r:α} (h:¬ c) (ht:Evt e r):Evt (fun k=>if c then t k else e k) r:=by
 obtain ⟨K,hK⟩:=ht
 exact ⟨K,fun k hk=>(if_neg h).trans (hK k hk)⟩
theorem Evt.ite {c:Prop} [Decidable c] {t e:Nat→Option α} {x y:α} (ht:c→Evt t x) (he:¬ c→Evt e y):Evt (fun k=>if c then t k else e k) (if c then x else y):=by
 by_cases h:c
 ·rw [if_pos h];exact Evt.pos h (ht h)
 ·rw [if_neg h];exact Evt.neg h (he h)
theorem Evt.get {g:Nat→Option α} {r:α} (h:Evt g r):∃ k,g k=some r:=by
 obtain ⟨K,hK⟩:=h
 exact ⟨K,hK K (Nat.le_refl _)⟩
theorem Evt.of_eq {g g':Nat→Option α} {r:α} (h:∀ k,g k=g' k) (h':Evt g' r):Evt g r:=by
 obtain ⟨K,hK⟩:=h'
 exact ⟨K,fun k hk=>by rw [h];exact hK k hk⟩
theorem Evt.cast {g:Nat→Option α} {r r':α} (h:Evt g r) (e:r=r'):Evt g r':=e ▸ h
theorem Evt.up (l:Nat→Int→Option α) (n:Nat) (R:Nat→α) (hend:Evt (fun k=>l k (n:Int)) (R n))
  (hstep:∀ i:Nat,i < n→Evt (fun k=>l k ((i+1:Nat):Int)) (R (i+1))→Evt (fun k=>l k (i:Int)) (R i)):Evt (fun k=>l k 0) (R 0):=by
 have h:∀ d i:Nat,i+d=n→Evt (fun k=>l k (i:Int)) (R i):=by
  intro d
  induction d with
  | zero =>
   intro i hi
   obtain rfl:i=n:=by omega
   exact hend
  | succ d ih =>
   intro i hi
   exact hstep i (by omega) (ih (i+1) (by omega))
 exact h n 0 (by omega)
end
theorem w64 {x:Int} (h : -9223372036854775808≤x) (h':x≤9223372036854775807):wrap64 x=x:=by unfold wrap64;omega
theorem w64s {i:Nat} (h:i < 9223372036854775807):wrap64 ((i:Int)+1)=((i+1:Nat):Int):=by
 rw [w64 (by omega) (by omega)];omega
theorem bt0 (s:ByteArray) (i:Int):0≤bt s i:=(bt_range s i).1
theorem bt255 (s:ByteArray) (i:Int):bt s i≤255:=(bt_range s i).2
theorem bt_get (s:ByteArray) (i:Nat) (h:i < (bytesOf s).length):bt s (i:Int)=(bytesOf s)[i]:=by
 rw [← rd_bytesOf]
 simp [rd,h]
theorem bytesOf_inj {s t:ByteArray} (h:bytesOf s=bytesOf t):s=t:=by
 have h1:s.data.toList=t.data.toList:=by
  refine List.map_inj_right (f:=fun b:UInt8=>(b.toNat:Int)) (fun x y hxy=>?_) |>.1 h
  exact UInt8.toNat_inj.1 (Int.ofNat_inj.1 hxy)
 cases s;cases t
 simp only [ByteArray.mk.injEq]
 exact Array.toList_inj.1 h1
theorem toList_eq_iff (s t:ByteArray):s.toList=t.toList ↔ s=t:=by
 rw [Lib.toList_data,Lib.toList_data]
 constructor
 ·intro h
  cases s;cases t
  simp only [ByteArray.mk.injEq]
  exact Array.toList_inj.1 h
 ·rintro rfl;rfl
theorem toList_nil_iff (s:ByteArray):s.toList=([]:List UInt8) ↔ s.size=0:=by
 rw [Lib.toList_data,← data_length,List.length_eq_zero_iff]
theorem mem_bytes (s:ByteArray) {c:Int} (h:c ∈ bytesOf s):0≤c∧c≤255:=by
 unfold bytesOf at h
 obtain ⟨b,_,rfl⟩:=List.mem_map.1 h
 have:=b.toNat_lt
 omega
theorem bytesOf_append (s t:ByteArray):bytesOf (s ++ t)=bytesOf s ++ bytesOf t:=by
 simp [bytesOf,ByteArray.data_append]
theorem bytesOf_extract (s:ByteArray) (a b:Nat):bytesOf (s.extract a b)=((bytesOf s).drop a).take (b - a):=by
 have h:=Lib.extract_toList s a b
 rw [Lib.toList_data] at h
 unfold bytesOf
 rw [h,List.map_take,List.map_drop]
theorem bytesOf_tail (s:ByteArray) (a:Nat):bytesOf (s.extract a s.size)=(bytesOf s).drop a:=by
 rw [bytesOf_extract,List.take_of_length_le]
 rw [List.length_drop,bytesOf_length]
 exact Nat.le_refl _
def ltI (c:Int):Int:=if 97=c then 0 else if 98=c then 1 else if 99=c then 2 else -1
def varI (c:Int):Int:=if 88=c then 0 else if 89=c then 1 else if 90=c then 2 else -1
def isVr (c:Int):Bool:=decide (88≤c∧c≤90)
theorem ix_abc:∀ n:Nat,n < 256→Lib.indexByte [97,98,99] n.toUInt8=ltI (n:Int):=by decide +kernel
theorem ix_XYZ:∀ n:Nat,n < 256→Lib.indexByte [88,89,90] n.toUInt8=varI (n:Int):=by decide +kernel
theorem varI_isVar (c:Int):decide (varI c ≥ 0)=isVr c:=by
 unfold varI isVr
 split
 ·subst_vars;rfl
 ·split
  ·subst_vars;rfl
  ·split
   ·subst_vars;rfl
   ·simp;omega
theorem ltI_nonneg (c:Int):0≤ltI c ↔ (97≤c∧c≤99):=by
 unfold ltI
 split
 ·subst_vars;simp
 ·split
  ·subst_vars;simp
  ·split
   ·subst_vars;simp
   ·simp;omega
theorem ltI_le (c:Int):ltI c≤2:=by
 unfold ltI
 repeat' split
 all_goals omega
theorem ltI_ge (c:Int) : -1≤ltI c:=by
 unfold ltI
 repeat' split
 all_goals omega
theorem bt_abc0:bt (⟨#[97,98,99]⟩:ByteArray) 0=97:=by decide
theorem bt_abc1:bt (⟨#[97,98,99]⟩:ByteArray) 1=98:=by decide
theorem bt_abc2:bt (⟨#[97,98,99]⟩:ByteArray) 2=99:=by decide
theorem bt_XYZ0:bt (⟨#[88,89,90]⟩:ByteArray) 0=88:=by decide
theorem bt_XYZ1:bt (⟨#[88,89,90]⟩:ByteArray) 1=89:=by decide
theorem bt_XYZ2:bt (⟨#[88,89,90]⟩:ByteArray) 2=90:=by decide
theorem w64_a:wrap64 1=1:=by unfold wrap64;omega
theorem w64_b:wrap64 2=2:=by unfold wrap64;omega
theorem w64_c:wrap64 3=3:=by unfold wrap64;omega
theorem w64_1:wrap64 (0+1)=1:=by unfold wrap64;omega
theorem w64_2:wrap64 (1+1)=2:=by unfold wrap64;omega
theorem w64_3:wrap64 (2+1)=3:=by unfold wrap64;omega
theorem indexByte_nonneg (l:List UInt8) (c:UInt8):0≤Lib.indexByte l c ↔ c ∈ l:=by
 induction l with
 | nil=>simp [Lib.indexByte]
 | cons b l ih =>
  unfold Lib.indexByte
  by_cases h:b=c
  ·subst h;simp
  ·have hb:(b == c)=false:=by simpa using h
   rw [hb]
   have hge:=Lib.indexByte_ge l c
   by_cases h2:Lib.indexByte l c = -1
   ·simp only [h2]
    simp
    refine ⟨fun e=>h e.symm,fun hm=>?_⟩
    have:=ih.2 hm
    omega
   ·have h3:(Lib.indexByte l c == -1)=false:=by simpa using h2
    rw [h3]
    simp
    constructor
    ·intro _;exact .inr (ih.1 (by omega))
    ·rintro (e|hm)
     ·exact absurd e.symm h
     ·have:=ih.2 hm;omega
theorem mem_data (s:ByteArray) (n:Nat) (hn:n < 256):n.toUInt8 ∈ s.data.toList ↔ (n:Int) ∈ bytesOf s:=by
 unfold bytesOf
 rw [List.mem_map]
 constructor
 ·intro h
  exact ⟨_,h,by simp [Nat.mod_eq_of_lt hn]⟩
 ·rintro ⟨b,hb,e⟩
  have e2:b.toNat=n:=by omega
  subst e2
  simpa using hb
theorem w64_sub {a:Int} {n:Nat} (ha : -1≤a) (ha':a≤1048576) (hn:n≤9223372036854775807):wrap64 (a - (n:Int))=a - (n:Int):=w64 (by omega) (by omega)
end Go.Proofs.YtffjfdoghofkdaaGreat.Pl
namespace Go.Proofs.YtffjfdoghofkdaaGreat.F
open Go.RowKit YtffjfdoghofkdaaGreatW.PrintWords YtffjfdoghofkdaaGreat.Pl YtffjfdoghofkdaaGreat.A YtffjfdoghofkdaaGreat.Ext
def Evt2 {α:Type} (g:Nat→Nat→Option α) (r:α):Prop:=∃ K,∀ i j,K≤i→K≤j→g i j=some r
theorem Evt2.ret {α:Type} (r:α):Evt2 (fun _ _=>some r) r:=⟨0,fun _ _ _ _=>rfl⟩
theorem Evt2.bind {α β:Type} {g:Nat→Option α} {f:Nat→Nat→α→Option β} {a:α} {r:β} (hg:Evt g a) (hf:Evt2 (fun i j=>f i j a) r):Evt2 (fun i j=>(g i).bind (f i j)) r:=by
 obtain ⟨K,hK⟩:=hg
 obtain ⟨L,hL⟩:=hf
 exact ⟨max K L,fun i j hi hj=>by show (g i).bind (f i j)=some r;rw [hK i (by omega)];exact hL i j (by omega) (by omega)⟩
theorem Evt2.bind2 {α β:Type} {g:Nat→Nat→Option α} {f:Nat→Nat→α→Option β} {a:α} {r:β} (hg:Evt2 g a) (hf:Evt2 (fun i j=>f i j a) r):Evt2 (fun i j=>(g i j).bind (f i j)) r:=by
 obtain ⟨K,hK⟩:=hg
 obtain ⟨L,hL⟩:=hf
 exact ⟨max K L,fun i j hi hj=>by show (g i j).bind (f i j)=some r;rw [hK i j (by omega) (by omega)];exact hL i j (by omega) (by omega)⟩
theorem Evt2.pos {α:Type} {c:Prop} [Decidable c] {t e:Nat→Nat→Option α} {r:α} (h:c) (ht:Evt2 t r):Evt2 (fun i j=>if c then t i j else e i j) r:=by
 obtain ⟨K,hK⟩:=ht
 exact ⟨K,fun i j hi hj=>by show (if c then t i j else e i j)=some r;rw [if_pos h];exact hK i j hi hj⟩
theorem Evt2.neg {α:Type} {c:Prop} [Decidable c] {t e:Nat→Nat→Option α} {r:α} (h:¬ c) (he:Evt2 e r):Evt2 (fun i j=>if c then t i j else e i j) r:=by
 obtain ⟨K,hK⟩:=he
 exact ⟨K,fun i j hi hj=>by show (if c then t i j else e i j)=some r;rw [if_neg h];exact hK i j hi hj⟩
theorem Evt2.step {α:Type} {g:Nat→Nat→Option α} {r:α} (h:Evt2 (fun i j=>g i (j+1)) r):Evt2 g r:=by
 obtain ⟨K,hK⟩:=h
 refine ⟨K+1,fun i j hi hj=>?_⟩
 obtain ⟨j,rfl⟩:∃ m,j=m+1:=⟨j - 1,by omega⟩
 exact hK i j (by omega) (by omega)
theorem Evt2.diag {α:Type} {g:Nat→Nat→Option α} {r:α} (h:Evt2 g r):Evt (fun k=>g k k) r:=by
 obtain ⟨K,hK⟩:=h
 exact ⟨K,fun k hk=>hK k k hk hk⟩
theorem Evt2.cast {α:Type} {g:Nat→Nat→Option α} {r r':α} (h:Evt2 g r) (e:r=r'):Evt2 g r':=e ▸ h
def RxOk:Nat→S101→Prop
 | 0,_=>False
 | n+1,x=>x.f1.size≤9223372036854775807∧x.f2.length≤9223372036854775807∧∀ a ∈ x.f2,RxOk n a
def cntN:Nat→List S65→Nat
 | 0,_=>0
 | d+1,xs=>(xs.map fun y=>2+cntN d y.f2).sum
def htN:Nat→S65→Bool
 | 0,_=>false
 | d+1,x=>x.f2.all (htN d)
def Bd (l:List S65) (c:Nat):Prop:=(∀ d,cntN d l≤2 * c)∧∃ N,∀ d,N≤d→l.all (htN d)=true
inductive Sm : S65 → Prop
 | mk (a:Int) (b:ByteArray) (l:List S65) (h:l.length≤1048576) (hs:∀ x ∈ l,Sm x) (hb:∃ c,c≤1048576∧Bd l c):Sm ⟨a,b,l⟩
theorem Sm.bd {x:S65} (h:Sm x):∃ c,c≤1048576∧Bd x.f2 c:=by cases h;assumption
theorem Sm.len {x:S65} (h:Sm x):x.f2.length≤1048576:=by cases h;assumption
theorem rxL_at (l:List S101) (i:Nat) (h:i < l.length):rd_T101 l (i:Int)=l[i]:=by simp [rd_T101,h]
theorem rxI_at (l:List S65) (i:Nat) (h:i < l.length):rd_T65 l (i:Int)=l[i]:=by simp [rd_T65,h]
theorem rx_eta (y:S65):(⟨y.f0,y.f1,y.f2⟩:S65)=y:=by cases y;rfl
def Cp (x:S101) (y:S65):Prop:=Sm y∧Evt (fun k=>laws_toRegex.f k x.f0 x.f1 x.f2) (y.f0,y.f1,y.f2)
def CpN (c:Nat) (x:S101) (y:S65):Prop:=Cp x y∧Bd y.f2 c
def LN (l:List S101) (c:Nat):Prop:=∃ ys:List S65,ys.length=l.length∧(∀ (i:Nat) (h:i < l.length) (h':i < ys.length),Cp l[i] ys[i])∧Bd ys c
theorem LN_nil:LN [] 0:=⟨[],rfl,fun i h=>absurd h (by simp),fun d=>by cases d <;> simp [cntN],0,fun _ _=>rfl⟩
theorem LN_cons {x:S101} {l:List S101} {c c':Nat} (h:∃ y,CpN c x y) (h':LN l c'):LN (x :: l) (1+c+c'):=by
 obtain ⟨y,hy,b1,N1,n1⟩:=h
 obtain ⟨ys,e,hc,b2,N2,n2⟩:=h'
 refine ⟨y :: ys,by simp [e],fun i hi hi' => ?_,fun d=>?_,max (N1+1) N2,fun d hd=>?_⟩
 ·cases i with
  | zero=>exact hy
  | succ i=>exact hc i (by simpa using hi) (by simpa using hi')
 ·cases d with
  | zero=>simp [cntN]
  | succ d =>
   have h1:=b1 d
   have h2:=b2 (d+1)
   simp only [cntN,List.map_cons,List.sum_cons] at h2 ⊢
   omega
 ·obtain ⟨d',rfl⟩:∃ d',d=d'+1:=⟨d - 1,by omega⟩
  rw [List.all_cons,n2 (d'+1) (by omega),Bool.and_true]
  exact n1 d' (by omega)
theorem toRegex_ev (a:Int) (b:ByteArray) (l:List S101) (hl:l.length≤1048576) (c:Nat) (hcc:c≤1048576) (h:LN l c):∃ y,CpN c ⟨a,b,l⟩ y:=by
 obtain ⟨ys,e,hc,hbd⟩:=h
 refine ⟨⟨a,b,ys⟩,⟨Sm.mk a b ys (by omega) (fun y hy=>?_) ⟨c,hcc,hbd⟩,?_⟩,hbd⟩
 ·obtain ⟨i,hi,rfl⟩:=List.mem_iff_getElem.1 hy
  exact (hc i (by omega) hi).1
 ·refine Evt.step ?_
  simp only [laws_toRegex.f]
  refine Evt2.diag (g:=fun i j=>laws_toRegexG.f (fun _=>laws_toRegex.f i) j a b l) ?_
  simp only [laws_toRegexG.f,laws_toRegexSG.f]
  refine Evt2.bind2 (a:=ys) (Evt2.pos (by omega) (Evt2.pos (by omega) ?_)) (Evt2.ret _)
  rw [Int.toNat_natCast]
  have hh:∀ d i:Nat,i+d=l.length→Evt2 (fun p q=>laws_toRegexSG.l0 (fun _=>laws_toRegex.f p) q l (ys.take i ++ List.replicate (l.length - i) z65) (i:Int)) ys:=by
   intro d
   induction d with
   | zero =>
    intro i hi
    refine Evt2.step ?_
    simp only [laws_toRegexSG.l0]
    refine Evt2.neg (by omega) ((Evt2.ret _).cast ?_)
    rw [show l.length - i=0 by omega,List.take_of_length_le (by omega)]
    simp
   | succ d ih =>
    intro i hi
    have hi':i < l.length:=by omega
    refine Evt2.step ?_
    simp only [laws_toRegexSG.l0]
    rw [rxL_at l i hi']
    refine Evt2.pos (by omega) (Evt2.pos (by omega) (Evt2.bind (hc i hi' (by omega)).2 (Evt2.pos (by simp;omega) ?_)))
    rw [Int.toNat_natCast,w64s (by omega)]
    have hx:(ys.take i).length=i:=by rw [List.length_take];omega
    have e2:(ys.take i ++ List.replicate (l.length - i) z65).set i (ys[i]'(by omega))=ys.take (i+1) ++ List.replicate (l.length - (i+1)) z65:=by
     rw [List.set_append_right _ _ (by omega),hx,Nat.sub_self,show l.length - i=(l.length - (i+1))+1 by omega,List.replicate_succ,zu,List.take_succ_eq_append_getElem (by omega),List.append_assoc]
     rfl
    simp only [rx_eta,e2]
    exact ih (i+1) (by omega)
  simpa using hh l.length 0 (by omega)
theorem szRegex_evN:∀ n (x:S101),RxOk n x→∀ v:Int,0≤v→v≤1048576→∃ t,Evt (fun k=>laws_szRegex.f k x.f0 x.f1 x.f2 v) t∧(t = -1∨(0≤t∧t≤v∧∃ (c:Nat) (y:S65),(c:Int)≤v - t∧CpN c x y)):=by
 intro n
 induction n with
 | zero=>intro x h;exact h.elim
 | succ n ih =>
  rintro ⟨a,b,l⟩ ⟨h1,h2,h3⟩ v hv hv'
  simp only at h1 h2 h3
  have hs:∃ t,Evt2 (fun i j=>laws_szRegexG.f (fun _=>laws_szRegex.f i) j a b l v) t∧(t = -1∨(0≤t∧t≤v∧∃ (c:Nat) (y:S65),(c:Int)≤v - t∧CpN c ⟨a,b,l⟩ y)):=by
   simp only [laws_szRegexG.f,laws_szRegexSG.f]
   rw [w64_sub (by omega) (by omega) h1]
   by_cases c1:v - b.size < 0
   ·exact ⟨-1,Evt2.pos c1 (Evt2.ret _),.inl rfl⟩
   rw [w64_sub (by omega) (by omega) h2]
   by_cases c2:v - b.size - l.length < 0
   ·exact ⟨-1,Evt2.neg c1 (Evt2.bind2 (Evt2.pos c2 (Evt2.ret _)) (Evt2.pos (by decide) (Evt2.ret _))),.inl rfl⟩
   have hh:∀ d i:Nat,i+d=l.length→∀ u:Int,0≤u→u≤1048576→∃ t,Evt2 (fun p q=>laws_szRegexSG.l0 (fun _=>laws_szRegex.f p) q l u (i:Int)) t∧(t = -1∨(0≤t∧t≤u∧∃ c:Nat,LN (l.drop i) c∧(c:Int)≤u - t+(l.length - i))):=by
    intro d
    induction d with
    | zero =>
     intro i hi u hu hu'
     refine ⟨u,Evt2.step ?_,.inr ⟨hu,Int.le_refl _,?_⟩⟩
     ·simp only [laws_szRegexSG.l0]
      exact Evt2.neg (by omega) (Evt2.ret _)
     ·rw [List.drop_of_length_le (by omega)]
      exact ⟨0,LN_nil,by omega⟩
    | succ d ihd =>
     intro i hi u hu hu'
     have hi':i < l.length:=by omega
     obtain ⟨t,ht,hc⟩:=ih l[i] (h3 _ (List.getElem_mem hi')) u hu hu'
     by_cases c3:t < 0
     ·refine ⟨-1,Evt2.step ?_,.inl rfl⟩
      simp only [laws_szRegexSG.l0]
      rw [rxL_at l i hi']
      exact Evt2.pos (by omega) (Evt2.pos (by omega) (Evt2.bind ht (Evt2.pos c3 (Evt2.ret _))))
     ·have hc':=hc.resolve_left (by omega)
      obtain ⟨t',ht',hc2⟩:=ihd (i+1) (by omega) t (by omega) (by omega)
      refine ⟨t',Evt2.step ?_,?_⟩
      ·simp only [laws_szRegexSG.l0]
       rw [rxL_at l i hi',w64s (by omega)]
       exact Evt2.pos (by omega) (Evt2.pos (by omega) (Evt2.bind ht (Evt2.neg c3 ht')))
      ·rcases hc2 with h4|⟨h4,h5,c2,h6,h7⟩
       ·exact .inl h4
       ·obtain ⟨_,_,c1',y,hy1,hy2⟩:=hc'
        refine .inr ⟨h4,by omega,1+c1'+c2,?_,by omega⟩
        rw [List.drop_eq_getElem_cons hi']
        exact LN_cons ⟨y,hy2⟩ h6
   obtain ⟨t,ht,hc⟩:=hh l.length 0 (by omega) (v - b.size - l.length) (by omega) (by omega)
   by_cases c4:t < 0
   ·exact ⟨-1,Evt2.neg c1 (Evt2.bind2 (Evt2.neg c2 ht) (Evt2.pos c4 (Evt2.ret _))),.inl rfl⟩
   ·obtain ⟨k1,k2,c5,k3,k4⟩:=hc.resolve_left (by omega)
    obtain ⟨y,hy⟩:=toRegex_ev a b l (by omega) c5 (by omega) (by simpa using k3)
    exact ⟨t,Evt2.neg c1 (Evt2.bind2 (Evt2.neg c2 ht) (Evt2.neg c4 (Evt2.ret _))),.inr ⟨k1,by omega,c5,y,by omega,hy⟩⟩
  obtain ⟨t,ht,hc⟩:=hs
  refine ⟨t,Evt.step ?_,hc⟩
  simp only [laws_szRegex.f]
  exact Evt2.diag ht
theorem szRegex_ev (n:Nat) (x:S101) (h:RxOk n x) (v:Int) (hv:0≤v) (hv':v≤1048576):∃ t,Evt (fun k=>laws_szRegex.f k x.f0 x.f1 x.f2 v) t∧(t = -1∨(0≤t∧t≤v∧∃ y,Cp x y)):=by
 obtain ⟨t,h1,h2⟩:=szRegex_evN n x h v hv hv'
 exact ⟨t,h1,h2.imp id fun ⟨h3,h4,_,y,_,h5⟩=>⟨h3,h4,y,h5.1⟩⟩
theorem spec_LetterIndex_ev (c:Int):Evt (fun k=>spec_LetterIndex.f k c) (ltI c):=by
 refine ⟨4,fun k hk=>?_⟩
 obtain ⟨m,rfl⟩:∃ m,k=m+4:=⟨k - 4,by omega⟩
 unfold ltI
 by_cases h0:(97:Int)=c
 ·simp [spec_LetterIndex.f,spec_LetterIndex.l0,w64_a,w64_b,w64_c,bt_abc0,bt_abc1,bt_abc2,h0]
 ·by_cases h1:(98:Int)=c
  ·simp [spec_LetterIndex.f,spec_LetterIndex.l0,w64_a,w64_b,w64_c,bt_abc0,bt_abc1,bt_abc2,h0,h1]
  ·by_cases h2:(99:Int)=c
   ·simp [spec_LetterIndex.f,spec_LetterIndex.l0,w64_a,w64_b,w64_c,bt_abc0,bt_abc1,bt_abc2,h0,h1,h2]
   ·simp [spec_LetterIndex.f,spec_LetterIndex.l0,w64_a,w64_b,w64_c,bt_abc0,bt_abc1,bt_abc2,h0,h1,h2]
theorem impl_LetterIndex_eq {c:Int} (h0:0≤c) (h1:c≤255):impl_LetterIndex.f c=some (ltI c):=by
 obtain ⟨n,rfl⟩:=Int.eq_ofNat_of_zero_le h0
 simp only [impl_LetterIndex.f,strings_IndexByte.f,Option.bind_some]
 rw [Int.toNat_natCast]
 exact congrArg some (ix_abc n (by omega))
def allL (l:List Int):Bool:=l.all fun c=>decide (0≤ltI c)
theorem impl_isLetters_ev (s:ByteArray) (hs:s.size≤9223372036854775807):Evt (fun k=>impl_isLetters.f k s) (allL (bytesOf s)):=by
 have h:=Evt.up (fun k i=>impl_isLetters.l0 k s i) s.size (fun i=>allL ((bytesOf s).drop i)) ?_ ?_
 ·simpa [impl_isLetters.f] using h
 ·refine Evt.step ?_
  simp only [impl_isLetters.l0]
  rw [List.drop_of_length_le za32]
  exact Evt.neg (by omega) (Evt.ret _)
 ·intro i hi h
  refine Evt.step ?_
  simp only [impl_isLetters.l0]
  refine Evt.pos (by omega) (Evt.pos (by omega) (Evt.bindc (impl_LetterIndex_eq (bt0 _ _) (bt255 _ _)) ?_))
  have hl:i < (bytesOf s).length:=by rw [bytesOf_length];exact hi
  rw [List.drop_eq_getElem_cons hl,← bt_get s i hl]
  by_cases hc:ltI (bt s i) < 0
  ·exact Evt.pos hc (Evt.const (by simp [allL,show ¬ (0≤ltI (bt s i)) by omega]))
  ·rw [w64s (by omega)]
   exact Evt.neg hc (h.cast (by simp [allL,show 0≤ltI (bt s i) by omega]))
def isW (s:ByteArray):Bool:=allL (bytesOf s) && decide (s.size≤30)
theorem impl_IsWord_ev (s:ByteArray) (hs:s.size≤9223372036854775807):Evt (fun k=>impl_IsWord.f k s) (isW s):=by
 unfold isW
 simp only [impl_IsWord.f]
 by_cases h:s.size≤30
 ·exact Evt.pos (by omega) (Evt.bind (impl_isLetters_ev s hs) (Evt.const (by simp [h])))
 ·exact Evt.neg (by omega) (Evt.const (by simp [h]))
theorem spec_IsWord_ev (s:ByteArray) (hs:s.size≤9223372036854775807):Evt (fun k=>spec_IsWord.f k s) (isW s):=by
 have h:=Evt.up (fun k i=>spec_IsWord.l0 k s i) s.size (fun i=>allL ((bytesOf s).drop i) && decide (s.size≤30)) ?_ ?_
 ·simpa [spec_IsWord.f,isW] using h
 ·refine Evt.step ?_
  simp only [spec_IsWord.l0]
  rw [List.drop_of_length_le za32]
  refine Evt.neg (by omega) (Evt.const ?_)
  have e:((s.size:Int)≤30)=(s.size≤30):=by apply propext;omega
  simp [allL,e]
 ·intro i hi h
  refine Evt.step ?_
  simp only [spec_IsWord.l0]
  refine Evt.pos (by omega) (Evt.pos (by omega) (Evt.bind (spec_LetterIndex_ev _) ?_))
  have hl:i < (bytesOf s).length:=by rw [bytesOf_length];exact hi
  rw [List.drop_eq_getElem_cons hl,← bt_get s i hl]
  by_cases hc:ltI (bt s i) < 0
  ·exact Evt.pos hc (Evt.const (by simp [allL,show ¬ (0≤ltI (bt s i)) by omega]))
  ·rw [w64s (by omega)]
   exact Evt.neg hc (h.cast (by simp [allL,show 0≤ltI (bt s i) by omega]))
def arN (a:Int):Nat:=if a=5∨a=6∨a=7 then 2 else if a=8∨a=9 then 1 else 0
theorem arN_le (a:Int):arN a≤2:=by
 unfold arN
 split
 ·omega
 ·split <;> omega
def kOk (a:Int) (b:ByteArray) (n:Nat):Bool :=
 if a=3 then decide (b.size=1) && isW b && decide (n=0) else decide (1≤a∧a≤9) && decide (b.size=0) && decide (n=arN a)
theorem kOk_len {a:Int} {b:ByteArray} {n:Nat} (h:kOk a b n=true):n=arN a:=by
 unfold kOk at h
 split at h
 ·next e=>subst e;simp at h;simp [h.2,arN]
 ·simp at h;exact h.2
def nds:Nat→S65→Nat
 | 0,_=>17
 | n+1,x=>if kOk x.f0 x.f1 x.f2.length=true then min (1+(x.f2.map (nds n)).sum) 17 else 17
theorem nds_le (n:Nat) (x:S65):nds n x≤17:=by
 cases n with
 | zero=>exact Nat.le_refl _
 | succ n=>unfold nds;split <;> omega
def Ht:Nat→S65→Prop
 | 0,_=>False
 | n+1,x=>x.f2.length≤1048576∧∀ a ∈ x.f2,Ht n a
theorem Ht_mono:∀ n (x:S65),Ht n x→Ht (n+1) x:=by
 intro n
 induction n with
 | zero=>intro x h;exact h.elim
 | succ n ih=>intro x h;exact ⟨h.1,fun a ha=>ih a (h.2 a ha)⟩
theorem Ht_le {n m:Nat} (h:n≤m) (x:S65) (hx:Ht n x):Ht m x:=by
 induction h with
 | refl=>exact hx
 | step _ ih=>exact Ht_mono _ _ ih
theorem Sm.ht {x:S65} (h:Sm x):∃ n,Ht n x:=by
 induction h with
 | mk a b l hl hs hb ih =>
  have h3:∃ n,∀ a ∈ l,Ht n a:=by
   clear hl hs hb
   induction l with
   | nil=>exact ⟨0,fun a ha=>by cases ha⟩
   | cons x l ihl =>
    obtain ⟨n,hn⟩:=ihl (fun a ha=>ih a (List.mem_cons_of_mem _ ha))
    obtain ⟨m,hm⟩:=ih x (List.mem_cons_self ..)
    refine ⟨max n m,fun a ha=>?_⟩
    rcases List.mem_cons.1 ha with rfl|ha
    ·exact Ht_le (by omega) _ hm
    ·exact Ht_le (by omega) _ (hn a ha)
  obtain ⟨n,hn⟩:=h3
  exact ⟨n+1,hl,hn⟩
def siz:Nat→S65→Nat
 | 0,_=>1
 | n+1,x=>1+(x.f2.map (siz n)).sum
def dep:Nat→S65→Nat
 | 0,_=>1
 | n+1,x=>(x.f2.map (dep n)).foldr max 0+1
def alls:Nat→S65→Bool
 | 0,_=>true
 | n+1,x=>(x.f2.all (alls n)) && kOk x.f0 x.f1 x.f2.length
theorem siz_pos (n:Nat) (x:S65):1≤siz n x:=by cases n <;> simp [siz]
theorem dep_pos (n:Nat) (x:S65):1≤dep n x:=by cases n <;> simp [dep]
theorem dep_le_siz (n:Nat):∀ x:S65,dep n x≤siz n x:=by
 induction n with
 | zero=>intro x;simp [dep,siz]
 | succ n ih =>
  intro x
  simp only [dep,siz]
  generalize x.f2=l
  induction l with
  | nil=>simp
  | cons y l ihl=>simp only [List.map_cons,List.foldr_cons,List.sum_cons];have:=ih y;omega
theorem nds_eq (n:Nat):∀ (x:S65) (e:Nat),Ht n x→nds e x=if alls n x=true∧dep n x≤e∧siz n x≤16 then siz n x else 17:=by
 induction n with
 | zero=>intro x e h;exact h.elim
 | succ n ih =>
  intro x e h
  cases e with
  | zero =>
   have:=dep_pos (n+1) x
   rw [if_neg (by omega)]
   rfl
  | succ e =>
   unfold nds
   by_cases hk:kOk x.f0 x.f1 x.f2.length=true
   ·rw [if_pos hk]
    have hl:=kOk_len hk
    have h2:=arN_le x.f0
    obtain ⟨_,hm⟩:=h
    simp only [alls,dep,siz,hk,Bool.and_true]
    generalize x.f2=l at *
    match l with
    | []=>simp
    | [p] =>
     have ip:=ih p e (hm p (by simp))
     have hp:=siz_pos n p
     have hq:=dep_pos n p
     simp only [List.map_cons,List.map_nil,List.sum_cons,List.sum_nil,List.foldr_cons,List.foldr_nil,List.all_cons,List.all_nil,Bool.and_true,ip]
     by_cases c1:alls n p=true <;> by_cases c2:dep n p≤e <;> by_cases c3:siz n p≤16 <;> simp only [c1,c2,c3,true_and,false_and,and_true,and_false,if_true,if_false,Bool.false_eq_true] <;> first|omega|(split <;> omega)
    | [p,q] =>
     have ip:=ih p e (hm p (by simp))
     have iq:=ih q e (hm q (by simp))
     have hp:=siz_pos n p
     have hq:=siz_pos n q
     have hp':=dep_pos n p
     have hq':=dep_pos n q
     simp only [List.map_cons,List.map_nil,List.sum_cons,List.sum_nil,List.foldr_cons,List.foldr_nil,List.all_cons,List.all_nil,Bool.and_true,ip,iq,Bool.and_eq_true]
     by_cases c1:alls n p=true <;> by_cases c2:dep n p≤e <;> by_cases c3:siz n p≤16 <;> by_cases c1':alls n q=true <;> by_cases c2':dep n q≤e <;> by_cases c3':siz n q≤16 <;> simp only [c1,c2,c3,c1',c2',c3',true_and,false_and,and_true,and_false,if_true,if_false,Bool.false_eq_true] <;> first|omega|(split <;> omega)
    | p :: q :: r :: l=>simp at hl;omega
   ·rw [if_neg hk,if_neg]
    simp [alls,hk]
theorem impl_isVariable_eq {c:Int} (h0:0≤c) (h1:c≤255):impl_isVariable.f c=some (isVr c):=by
 obtain ⟨n,rfl⟩:=Int.eq_ofNat_of_zero_le h0
 simp only [impl_isVariable.f,strings_IndexByte.f,Option.bind_some]
 rw [Int.toNat_natCast,← varI_isVar,← ix_XYZ n (by omega)]
theorem spec_l8Var_eq (c:Int):spec_l8Var.f c=some (isVr c):=by
 unfold spec_l8Var.f isVr
 by_cases h:c ≥ 88
 ·rw [if_pos h];simp [show 88≤c from h]
 ·rw [if_neg h];simp [show ¬ 88≤c from h]
def isT (c:Int):Bool:=decide (0≤ltI c) || isVr c
def isTm (s:ByteArray):Bool:=(bytesOf s).all isT && decide (s.size≤12)
theorem spec_IsTerm_ev (s:ByteArray) (hs:s.size≤9223372036854775807):Evt (fun k=>spec_IsTerm.f k s) (isTm s):=by
 have h:=Evt.up (fun k i=>spec_IsTerm.l0 k s i) s.size (fun i=>((bytesOf s).drop i).all isT && decide (s.size≤12)) ?_ ?_
 ·simpa [spec_IsTerm.f,isTm] using h
 ·refine Evt.step ?_
  simp only [spec_IsTerm.l0]
  rw [List.drop_of_length_le za32]
  refine Evt.neg (by omega) (Evt.const ?_)
  have e:((s.size:Int)≤12)=(s.size≤12):=by apply propext;omega
  simp [e]
 ·intro i hi h
  refine Evt.step ?_
  simp only [spec_IsTerm.l0]
  refine Evt.pos (by omega) (Evt.pos (by omega) (Evt.bind (spec_LetterIndex_ev _) ?_))
  have hl:i < (bytesOf s).length:=by rw [bytesOf_length];exact hi
  rw [List.drop_eq_getElem_cons hl,← bt_get s i hl,w64s (by omega)]
  by_cases hc:ltI (bt s i) < 0
  ·refine Evt.pos hc (Evt.bindc (spec_l8Var_eq _) ?_)
   by_cases hv:isVr (bt s i)=true
   ·exact Evt.pos hv (h.cast (by simp [isT,hv]))
   ·exact Evt.neg hv (Evt.const (by simp [isT,hv,show ¬ (0≤ltI (bt s i)) by omega]))
  ·exact Evt.neg hc (h.cast (by simp [isT,show 0≤ltI (bt s i) by omega]))
theorem impl_IsTerm_ev (s:ByteArray):Evt (fun k=>impl_IsTerm.f k s) (isTm s):=by
 simp only [impl_IsTerm.f]
 by_cases h12:(s.size:Int) > 12
 ·exact Evt.pos h12 (Evt.const (by simp [isTm,show ¬ s.size≤12 by omega]))
 refine Evt.neg h12 ?_
 have h:=Evt.up (fun k i=>impl_IsTerm.l0 k s i) s.size (fun i=>((bytesOf s).drop i).all isT) ?_ ?_
 ·exact h.cast (by simp [isTm,show s.size≤12 by omega])
 ·refine Evt.step ?_
  simp only [impl_IsTerm.l0]
  rw [List.drop_of_length_le za32]
  exact Evt.neg (by omega) (Evt.ret _)
 ·intro i hi h
  refine Evt.step ?_
  simp only [impl_IsTerm.l0]
  refine Evt.pos (by omega) (Evt.pos (by omega) (Evt.bindc (impl_LetterIndex_eq (bt0 _ _) (bt255 _ _)) ?_))
  have hl:i < (bytesOf s).length:=by rw [bytesOf_length];exact hi
  rw [List.drop_eq_getElem_cons hl,← bt_get s i hl,w64s (by omega)]
  by_cases hc:ltI (bt s i) < 0
  ·refine Evt.pos hc (Evt.bindc (impl_isVariable_eq (bt0 _ _) (bt255 _ _)) ?_)
   by_cases hv:isVr (bt s i)=true
   ·exact Evt.pos hv (h.cast (by simp [isT,hv]))
   ·exact Evt.neg hv (Evt.const (by simp [isT,hv,show ¬ (0≤ltI (bt s i)) by omega]))
  ·exact Evt.neg hc (h.cast (by simp [isT,show 0≤ltI (bt s i) by omega]))
def cntB (l:List Int) (c:Int):Nat:=l.count c
theorem spec_CountByte_ev (s:ByteArray) (c:Int) (hs:s.size≤9223372036854775807):Evt (fun k=>spec_CountByte.f k s c) ((cntB (bytesOf s) c:Nat):Int):=by
 have h:∀ d i n:Nat,i+d=s.size→n≤i→Evt (fun k=>spec_CountByte.l0 k s c (n:Int) (i:Int)) (((n+cntB ((bytesOf s).drop i) c:Nat)):Int):=by
  intro d
  induction d with
  | zero =>
   intro i n hi hn
   refine Evt.step ?_
   simp only [spec_CountByte.l0]
   rw [List.drop_of_length_le za32]
   exact Evt.neg (by omega) (Evt.const (by simp [cntB]))
  | succ d ih =>
   intro i n hi hn
   refine Evt.step ?_
   simp only [spec_CountByte.l0]
   have hl:i < (bytesOf s).length:=by rw [bytesOf_length];omega
   rw [List.drop_eq_getElem_cons hl,← bt_get s i hl,w64s (i:=i) (by omega),w64s (i:=n) (by omega)]
   refine Evt.pos (by omega) (Evt.pos (by omega) ?_)
   by_cases hc:bt s i=c
   ·exact Evt.pos hc ((ih (i+1) (n+1) (by omega) (by omega)).cast (by simp [cntB,hc];omega))
   ·exact Evt.neg hc ((ih (i+1) n (by omega) (by omega)).cast (by simp [cntB,hc]))
 have:=h s.size 0 0 (by omega) (by omega)
 simpa [spec_CountByte.f] using this
theorem cntB_pos (l:List Int) (c:Int):((cntB l c:Nat):Int) > 0 ↔ c ∈ l:=by
 unfold cntB
 rw [show (((l.count c:Nat):Int) > 0)=(0 < l.count c) by apply propext;omega]
 exact List.count_pos_iff
def vr (p:Int→Bool):Nat→Int→ByteArray→ByteArray
 | 0,_,acc=>acc
 | n+1,i,acc=>vr p n (i+1) (if p (bt (⟨#[88,89,90]⟩:ByteArray) i)=true then acc ++ ((⟨#[88,89,90]⟩:ByteArray).extract (i:Int).toNat ((i+1):Int).toNat) else acc)
def varsB (s:ByteArray):ByteArray:=vr (fun c=>decide (c ∈ bytesOf s)) 3 0 (⟨#[]⟩:ByteArray)
theorem ext_size (i:Int) (h0:0≤i) (h:i < 3):((⟨#[88,89,90]⟩:ByteArray).extract (i:Int).toNat ((i+1):Int).toNat).size=1:=by
 have:i=0∨i=1∨i=2:=by omega
 rcases this with rfl|rfl|rfl <;> rfl
theorem spec_VarsOf_ev (s:ByteArray) (hs:s.size≤9223372036854775807):Evt (fun k=>spec_VarsOf.f k s) (varsB s):=by
 have h:∀ (n:Nat) (i:Int) (acc:ByteArray),0≤i→i+n=3→acc.size+n≤3→Evt (fun k=>spec_VarsOf.l0 k s acc i) (vr (fun c=>decide (c ∈ bytesOf s)) n i acc):=by
  intro n
  induction n with
  | zero =>
   intro i acc h0 hi ha
   refine Evt.step ?_
   simp only [spec_VarsOf.l0]
   exact Evt.neg (by omega) (Evt.ret _)
  | succ n ih =>
   intro i acc h0 hi ha
   have hx:=ext_size i h0 (by omega)
   have hw:wrap64 (i+1)=i+1:=w64 (by omega) (by omega)
   refine Evt.step ?_
   simp only [spec_VarsOf.l0,hw,hx]
   refine Evt.pos (by omega) (Evt.pos (by omega) (Evt.bind (spec_CountByte_ev s _ hs) ?_))
   unfold vr
   by_cases hc:bt (⟨#[88,89,90]⟩:ByteArray) i ∈ bytesOf s
   ·refine Evt.pos ((cntB_pos _ _).2 hc) (Evt.pos (by omega) (Evt.pos (by omega) (Evt.pos (by omega) ?_)))
    exact (ih (i+1) _ (by omega) (by omega) (by rw [ByteArray.size_append,hx];omega)).cast (by simp [hc])
   ·exact Evt.neg (fun h=>hc ((cntB_pos _ _).1 h)) ((ih (i+1) acc (by omega) (by omega) (by omega)).cast (by simp [hc]))
 simpa [spec_VarsOf.f,varsB] using h 3 0 (⟨#[]⟩:ByteArray) (by omega) (by omega) (by decide)
theorem ib_nonneg (s:ByteArray) {c:Int} (h0:0≤c) (h1:c≤255):Lib.indexByte s.data.toList c.toNat.toUInt8 ≥ 0 ↔ c ∈ bytesOf s:=by
 obtain ⟨n,rfl⟩:=Int.eq_ofNat_of_zero_le h0
 rw [Int.toNat_natCast,ge_iff_le,indexByte_nonneg,mem_data s n (by omega)]
theorem impl_VarsOf_ev (s:ByteArray):Evt (fun k=>impl_VarsOf.f k s) (varsB s):=by
 have h:∀ (n:Nat) (i:Int) (acc:ByteArray),0≤i→i+n=3→acc.size+n≤3→Evt (fun k=>impl_VarsOf.l0 k s acc i) (vr (fun c=>decide (c ∈ bytesOf s)) n i acc):=by
  intro n
  induction n with
  | zero =>
   intro i acc h0 hi ha
   refine Evt.step ?_
   simp only [impl_VarsOf.l0]
   exact Evt.neg (by omega) (Evt.ret _)
  | succ n ih =>
   intro i acc h0 hi ha
   have hx:=ext_size i h0 (by omega)
   have hw:wrap64 (i+1)=i+1:=w64 (by omega) (by omega)
   refine Evt.step ?_
   simp only [impl_VarsOf.l0,hw,hx]
   refine Evt.pos (by omega) (Evt.pos (by omega) (Evt.bindc rfl ?_))
   unfold vr
   by_cases hc:bt (⟨#[88,89,90]⟩:ByteArray) i ∈ bytesOf s
   ·refine Evt.pos ((ib_nonneg s (bt0 _ _) (bt255 _ _)).2 hc) (Evt.pos (by omega) (Evt.pos (by omega) (Evt.pos (by omega) ?_)))
    exact (ih (i+1) _ (by omega) (by omega) (by rw [ByteArray.size_append,hx];omega)).cast (by simp [hc])
   ·exact Evt.neg (fun h=>hc ((ib_nonneg s (bt0 _ _) (bt255 _ _)).1 h)) ((ih (i+1) acc (by omega) (by omega) (by omega)).cast (by simp [hc]))
 simpa [impl_VarsOf.f,varsB] using h 3 0 (⟨#[]⟩:ByteArray) (by omega) (by omega) (by decide)
theorem impl_argsOf_ev (a:Int):Evt (fun k=>impl_argsOf.f k a) (if 1≤a∧a≤9 then (arN a:Int) else -1):=by
 refine ⟨3,fun k hk=>?_⟩
 obtain ⟨m,rfl⟩:∃ m,k=m+3:=⟨k - 3,by omega⟩
 have h:a=1∨a=2∨a=3∨a=4∨a=5∨a=6∨a=7∨a=8∨a=9∨¬ (1≤a∧a≤9):=by omega
 rcases h with rfl|rfl|rfl|rfl|rfl|rfl|rfl|rfl|rfl|h
 all_goals first
  | simp [impl_argsOf.f,impl_argsOf.j0,impl_argsOf.j1,arN,-Int.reduceNeg];done
  | skip
 rw [if_neg h]
 have e:∀ c:Int,1≤c→c≤9→¬ a=c:=fun c h1 h2 h3=>h (by omega)
 have eb:∀ c:Int,1≤c→c≤9→(a == c)=false:=fun c h1 h2=>by simpa using e c h1 h2
 simp [impl_argsOf.f,impl_argsOf.j0,impl_argsOf.j1,e 1,e 2,e 3,e 4,e 5,e 6,e 7,e 8,e 9,eb 4,eb 9]
theorem impl_nodesOf_j0t (v a:Int) (b:ByteArray) (l:List S65):Evt (fun k=>impl_nodesOf.j0 k v true a b l) 17:=by
 refine Evt.step ?_
 simp only [impl_nodesOf.j0]
 exact Evt.pos trivial (Evt.ret _)
theorem impl_nodesOf_l0 (n:Nat) (hn:n≤6) (l:List S65) (hl:l.length≤2) (ih:∀ x ∈ l,Evt (fun k=>impl_nodesOf.f k x.f0 x.f1 x.f2 (n:Int)) ((nds n x:Nat):Int)) :
  ∀ d i acc:Nat,i+d=l.length→acc≤1+17 * i→Evt (fun k=>impl_nodesOf.l0 k ((n+1:Nat):Int) (acc:Int) l (l.length:Int) (i:Int)) ((min (acc+((l.drop i).map (nds n)).sum) 17:Nat):Int):=by
 intro d
 induction d with
 | zero =>
  intro i acc hi ha
  refine Evt.step ?_
  simp only [impl_nodesOf.l0]
  refine Evt.neg (by omega) ((Evt.ret _).cast ?_)
  rw [List.drop_of_length_le (by omega)]
  simp only [mn,List.map_nil,List.sum_nil,Nat.add_zero]
  split <;> omega
 | succ d ihd =>
  intro i acc hi ha
  have hi':i < l.length:=by omega
  have hx:=nds_le n l[i]
  refine Evt.step ?_
  simp only [impl_nodesOf.l0]
  rw [rxI_at l i hi',w64s (by omega),w64 (x:=((n+1:Nat):Int) - 1) (by omega) (by omega),show ((n+1:Nat):Int) - 1=(n:Int) by omega]
  refine Evt.pos (by omega) (Evt.pos (by omega) (Evt.pos (by omega) (Evt.bind (ih _ (List.getElem_mem hi')) ?_)))
  rw [w64 (by omega) (by omega),show (acc:Int)+((nds n l[i]:Nat):Int)=((acc+nds n l[i]:Nat):Int) by omega]
  refine (ihd (i+1) (acc+nds n l[i]) (by omega) (by omega)).cast ?_
  rw [List.drop_eq_getElem_cons hi',List.map_cons,List.sum_cons,Nat.add_assoc]
theorem impl_nodesOf_ev (n:Nat):n≤6→∀ x:S65,Evt (fun k=>impl_nodesOf.f k x.f0 x.f1 x.f2 (n:Int)) ((nds n x:Nat):Int):=by
 induction n with
 | zero =>
  intro _ x
  refine Evt.step ?_
  simp only [impl_nodesOf.f]
  exact Evt.pos (by omega) ((impl_nodesOf_j0t _ _ _ _).cast (by simp [nds]))
 | succ n ih =>
  intro hn x
  refine Evt.step ?_
  simp only [impl_nodesOf.f]
  refine Evt.neg (by omega) (Evt.bind (impl_argsOf_ev _) ?_)
  unfold nds
  by_cases hlen:(x.f2.length:Int)=(if 1≤x.f0∧x.f0≤9 then (arN x.f0:Int) else -1)
  ·have e:((x.f2.length:Int) != (if 1≤x.f0∧x.f0≤9 then (arN x.f0:Int) else -1))=false:=by simp [hlen]
   rw [e]
   have hr:1≤x.f0∧x.f0≤9:=by
    by_cases hr:1≤x.f0∧x.f0≤9
    ·exact hr
    ·rw [if_neg hr] at hlen;omega
   rw [if_pos hr] at hlen
   have ha:=arN_le x.f0
   have hj1:Evt (fun k=>impl_nodesOf.j1 k ((n+1:Nat):Int) x.f0 x.f1 x.f2) ((min (1+(x.f2.map (nds n)).sum) 17:Nat):Int):=by
    refine Evt.step ?_
    simp only [impl_nodesOf.j1]
    have:=impl_nodesOf_l0 n (by omega) x.f2 (by omega) (fun y _=>ih (by omega) y) x.f2.length 0 1 (by omega) (by omega)
    simpa using this
   refine Evt.step ?_
   simp only [impl_nodesOf.j0]
   refine Evt.neg (by decide) ?_
   by_cases h3:x.f0=3
   ·refine Evt.pos h3 ?_
    have h0:x.f2.length=0:=by rw [h3] at hlen;simp [arN] at hlen;simp [hlen]
    by_cases h1:x.f1.size=1
    ·refine Evt.pos (by omega) (Evt.bind (impl_IsWord_ev _ (by omega)) ?_)
     cases hw:isW x.f1 with
     | true=>exact Evt.pos rfl (hj1.cast (by simp [kOk,h3,h1,hw,h0]))
     | false=>exact Evt.neg (by decide) ((Evt.ret _).cast (by simp [kOk,h3,h1,hw]))
    ·exact Evt.neg (by omega) ((Evt.ret _).cast (by simp [kOk,h3,h1]))
   ·refine Evt.neg h3 ?_
    by_cases h1:x.f1.size=0
    ·have h4:x.f2.length=arN x.f0:=by omega
     exact Evt.pos ((toList_nil_iff _).2 h1) (hj1.cast (by simp [kOk,h3,h1,hr,h4]))
    ·exact Evt.neg (fun h=>h1 ((toList_nil_iff _).1 h)) ((Evt.ret _).cast (by simp [kOk,h3,h1]))
  ·have e:((x.f2.length:Int) != (if 1≤x.f0∧x.f0≤9 then (arN x.f0:Int) else -1))=true:=bne_iff_ne.mpr hlen
   rw [e]
   refine (impl_nodesOf_j0t _ _ _ _).cast ?_
   rw [if_neg]
   ·rfl
   ·intro hk
    have:=kOk_len hk
    refine hlen ?_
    have hr:1≤x.f0∧x.f0≤9:=by
     unfold kOk at hk
     split at hk
     ·omega
     ·simp at hk;exact hk.1.1
    rw [if_pos hr];omega
theorem impl_IsValidRegex_ev (x:S65):Evt (fun k=>impl_IsValidRegex.f k x.f0 x.f1 x.f2) (decide (nds 6 x≤16)):=by
 simp only [impl_IsValidRegex.f]
 refine Evt.bind (impl_nodesOf_ev 6 (Nat.le_refl _) x) ((Evt.ret _).cast ?_)
 have e:(((nds 6 x:Nat):Int)≤16)=(nds 6 x≤16):=by apply propext;omega
 simp [e]
theorem spec_l3Left_ev (n:Nat):∀ x:S65,Ht n x→∀ v:Int,0≤v→v≤16→∃ r,Evt (fun k=>spec_l3Left.f k x.f0 x.f1 x.f2 v) r∧r≤16∧(if (siz n x:Int)≤v then r=v - siz n x else r < 0):=by
 induction n with
 | zero=>intro x h;exact h.elim
 | succ n ih =>
  rintro ⟨a,b,l⟩ ⟨hl,hm⟩ v h0 h1
  simp only at hl hm
  have hh:∀ d i:Nat,i+d=l.length→∀ u:Int,u≤16→∃ r,Evt (fun k=>spec_l3Left.l0 k u (i:Int) a b l) r∧r≤16∧(if ((((l.drop i).map (siz n)).sum:Nat):Int)≤u then r=u - (((l.drop i).map (siz n)).sum:Nat) else r < 0):=by
   intro d
   induction d with
   | zero =>
    intro i hi u hu
    refine ⟨u,Evt.step ?_,hu,?_⟩
    ·simp only [spec_l3Left.l0]
     exact Evt.neg (by omega) (Evt.ret _)
    ·rw [List.drop_of_length_le (by omega)]
     simp only [List.map_nil,List.sum_nil]
     split <;> omega
   | succ d ihd =>
    intro i hi u hu
    have hi':i < l.length:=by omega
    rw [List.drop_eq_getElem_cons hi',List.map_cons,List.sum_cons]
    by_cases hu0:u ≥ 0
    ·obtain ⟨r,hr,hr',hc⟩:=ih l[i] (hm _ (List.getElem_mem hi')) u hu0 hu
     obtain ⟨r2,hr2,hr2',hc2⟩:=ihd (i+1) (by omega) r hr'
     refine ⟨r2,Evt.step ?_,hr2',?_⟩
     ·simp only [spec_l3Left.l0]
      rw [rxI_at l i hi',w64s (by omega)]
      exact Evt.pos (by omega) (Evt.pos hu0 (Evt.pos (by omega) (Evt.bind hr hr2)))
     ·generalize (((l.drop (i+1)).map (siz n)).sum)=s at *
      generalize siz n l[i]=t at *
      split at hc <;> split at hc2 <;> split <;> omega
    ·refine ⟨u,Evt.step ?_,hu,?_⟩
     ·simp only [spec_l3Left.l0]
      exact Evt.pos (by omega) (Evt.neg hu0 (Evt.ret _))
     ·rw [if_neg (by omega)];omega
  obtain ⟨r,hr,hr',hc⟩:=hh l.length 0 (by omega) (v - 1) (by omega)
  refine ⟨r,Evt.step ?_,hr',?_⟩
  ·simp only [spec_l3Left.f]
   rw [w64 (by omega) (by omega)]
   exact hr
  ·rw [List.drop_zero] at hc
   have e:siz (n+1) (⟨a,b,l⟩:S65)=1+(l.map (siz n)).sum:=by simp [siz]
   by_cases hs:((siz (n+1) (⟨a,b,l⟩:S65):Nat):Int)≤v
   ·rw [if_pos hs]
    rw [if_pos (by omega)] at hc
    omega
   ·rw [if_neg hs]
    rw [if_neg (by omega)] at hc
    exact hc
theorem mem_sum {n:Nat} (l:List S65) (y:S65) (h:y ∈ l):siz n y≤(l.map (siz n)).sum:=by
 induction l with
 | nil=>cases h
 | cons x l ih =>
  rw [List.map_cons,List.sum_cons]
  rcases List.mem_cons.1 h with rfl|h
  ·omega
  ·have:=ih h;omega
theorem spec_l3Depth_ev (n:Nat):∀ x:S65,Ht n x→siz n x≤16→Evt (fun k=>spec_l3Depth.f k x.f0 x.f1 x.f2) (dep n x:Int):=by
 induction n with
 | zero=>intro x h;exact h.elim
 | succ n ih =>
  rintro ⟨a,b,l⟩ ⟨hl,hm⟩ hs
  simp only at hl hm
  simp only [siz] at hs
  have hx:∀ y ∈ l,siz n y≤16:=by
   intro y hy
   have:siz n y≤(l.map (siz n)).sum:=mem_sum l y hy
   omega
  have hh:∀ d i:Nat,i+d=l.length→∀ u:Nat,u≤16→Evt (fun k=>spec_l3Depth.l0 k (u:Int) (i:Int) a b l) ((max u (((l.drop i).map (dep n)).foldr max 0)+1:Nat):Int):=by
   intro d
   induction d with
   | zero =>
    intro i hi u hu
    refine Evt.step ?_
    simp only [spec_l3Depth.l0]
    rw [List.drop_of_length_le (by omega)]
    refine Evt.neg (by omega) ((Evt.ret _).cast ?_)
    rw [w64 (by omega) (by omega)]
    simp
   | succ d ihd =>
    intro i hi u hu
    have hi':i < l.length:=by omega
    have h1:=hx _ (List.getElem_mem hi')
    have h2:=dep_le_siz n l[i]
    refine Evt.step ?_
    simp only [spec_l3Depth.l0]
    rw [List.drop_eq_getElem_cons hi',List.map_cons,List.foldr_cons]
    rw [rxI_at l i hi',w64s (by omega)]
    refine Evt.pos (by omega) (Evt.pos (by omega) (Evt.bind (ih _ (hm _ (List.getElem_mem hi')) h1) (Evt.bindc (a:=((max u (dep n l[i]):Nat):Int)) ?_ ?_)))
    ·simp only [spec_l1Max.f]
     split
     ·congr 1;omega
     ·congr 1;omega
    ·refine (ihd (i+1) (by omega) (max u (dep n l[i])) (by omega)).cast ?_
     congr 1
     generalize ((l.drop (i+1)).map (dep n)).foldr max 0=z
     omega
  refine Evt.step ?_
  simp only [spec_l3Depth.f]
  refine (hh l.length 0 (by omega) 0 (by omega)).cast ?_
  simp [dep]
theorem spec_l3Args_ev (a:Int):Evt (fun k=>spec_l3Args.f k a) (arN a:Int):=by
 refine ⟨1,fun k hk=>?_⟩
 obtain ⟨m,rfl⟩:∃ m,k=m+1:=⟨k - 1,by omega⟩
 have h:a=5∨a=6∨a=7∨a=8∨a=9∨(a ≠ 5∧a ≠ 6∧a ≠ 7∧a ≠ 8∧a ≠ 9):=by omega
 rcases h with rfl|rfl|rfl|rfl|rfl|⟨h1,h2,h3,h4,h5⟩
 all_goals simp [spec_l3Args.f,spec_l3Args.j0,arN, *]
theorem spec_l3All_ev (n:Nat):∀ x:S65,Ht n x→Evt (fun k=>spec_l3All.f k x.f0 x.f1 x.f2) (alls n x):=by
 induction n with
 | zero=>intro x h;exact h.elim
 | succ n ih =>
  rintro ⟨a,b,l⟩ ⟨hl,hm⟩
  simp only at hl hm
  refine Evt.step ?_
  simp only [spec_l3All.f,alls]
  have hh:=Evt.up (fun k i=>spec_l3All.l0 k i a b l) l.length (fun i=>(l.drop i).all (alls n) && kOk a b l.length) ?_ ?_
  ·simpa using hh
  ·refine Evt.step ?_
   simp only [spec_l3All.l0]
   rw [List.drop_of_length_le (by omega)]
   refine Evt.neg (by omega) ?_
   simp only [List.all_nil,Bool.true_and]
   unfold kOk
   by_cases h3:a=3
   ·rw [if_pos h3]
    refine Evt.pos h3 ?_
    by_cases h1:b.size=1
    ·refine Evt.pos (by omega) (Evt.bind (spec_IsWord_ev _ (by omega)) ?_)
     cases hw:isW b with
     | true =>
      refine Evt.pos rfl ((Evt.ret _).cast ?_)
      have e:((l.length:Int) == 0)=decide (l.length=0):=by rw [show ((l.length:Int) == 0)=decide ((l.length:Int)=0) from rfl];congr 1;apply propext;omega
      simp [h1,e]
     | false=>exact Evt.neg (by decide) ((Evt.ret _).cast (by simp))
    ·exact Evt.neg (by omega) ((Evt.ret _).cast (by simp [h1]))
   ·rw [if_neg h3]
    refine Evt.neg h3 ?_
    by_cases hr:1≤a∧a≤9
    ·refine Evt.bindc (a:=true) (by simp [spec_l1In.f,hr.1,hr.2]) (Evt.pos rfl ?_)
     by_cases h1:b.size=0
     ·refine Evt.pos ((toList_nil_iff _).2 h1) (Evt.bind (spec_l3Args_ev _) ((Evt.ret _).cast ?_))
      have e:((l.length:Int) == (arN a:Int))=decide (l.length=arN a):=by rw [show ((l.length:Int) == (arN a:Int))=decide ((l.length:Int)=(arN a:Int)) from rfl];congr 1;apply propext;omega
      simp [h1,hr.1,hr.2,e]
     ·exact Evt.neg (fun h=>h1 ((toList_nil_iff _).1 h)) ((Evt.ret _).cast (by simp [h1]))
    ·refine Evt.bindc (a:=false) ?_ (Evt.neg (by decide) ((Evt.ret _).cast (by simp [hr])))
     simp only [spec_l1In.f]
     by_cases hr1:a ≥ 1
     ·rw [if_pos hr1];congr 1;simp;omega
     ·rw [if_neg hr1]
  ·intro i hi h
   refine Evt.step ?_
   simp only [spec_l3All.l0]
   rw [rxI_at l i hi,w64s (by omega),List.drop_eq_getElem_cons hi]
   refine Evt.pos (by omega) (Evt.pos (by omega) (Evt.bind (ih _ (hm _ (List.getElem_mem hi))) ?_))
   rw [List.all_cons]
   cases alls n l[i] with
   | true=>exact Evt.pos rfl (h.cast (by simp))
   | false=>exact Evt.neg (by decide) ((Evt.ret _).cast (by simp))
theorem spec_IsValidRegex_ev (x:S65) (h:Sm x):Evt (fun k=>spec_IsValidRegex.f k x.f0 x.f1 x.f2) (decide (nds 6 x≤16)):=by
 obtain ⟨n,hn⟩:=h.ht
 rw [nds_eq n x 6 hn]
 simp only [spec_IsValidRegex.f]
 obtain ⟨r,hr,_,hc⟩:=spec_l3Left_ev n x hn 16 (by omega) (by omega)
 refine Evt.bind hr ?_
 by_cases h1:siz n x≤16
 ·rw [if_pos (by omega)] at hc
  refine Evt.pos (by omega) (Evt.bind (spec_l3Depth_ev n x hn h1) ?_)
  by_cases h2:dep n x≤6
  ·refine Evt.pos (by omega) (Evt.bind (spec_l3All_ev n x hn) ((Evt.ret _).cast ?_))
   cases ha:alls n x <;> simp [h1,h2]
  ·exact Evt.neg (by omega) ((Evt.ret _).cast (by simp [h2]))
 ·rw [if_neg (by omega)] at hc
  exact Evt.neg (by omega) ((Evt.ret _).cast (by simp [h1]))
theorem eqRegex_ev (x:S65) (h:Sm x):Evt (fun k=>laws_eqRegex.f k x.f0 x.f1 x.f2 x.f0 x.f1 x.f2) true:=by
 induction h with
 | mk a b l hl hs _ ih =>
  refine Evt.step ?_
  simp only [laws_eqRegex.f]
  refine Evt2.diag (g:=fun i j=>laws_eqRegexG.f (fun _=>laws_eqRegex.f i) j a b l a b l) ?_
  simp only [laws_eqRegexG.f,laws_eqRegexSG.f]
  refine Evt2.pos trivial (Evt2.pos trivial (Evt2.bind2 (a:=true) (Evt2.pos trivial ?_) (Evt2.pos rfl (Evt2.ret _))))
  have hh:∀ d i:Nat,i+d=l.length→Evt2 (fun p q=>laws_eqRegexSG.l0 (fun _=>laws_eqRegex.f p) q l l (i:Int)) true:=by
   intro d
   induction d with
   | zero =>
    intro i hi
    refine Evt2.step ?_
    simp only [laws_eqRegexSG.l0]
    exact Evt2.neg (by omega) (Evt2.ret _)
   | succ d ihd =>
    intro i hi
    have hi':i < l.length:=by omega
    refine Evt2.step ?_
    simp only [laws_eqRegexSG.l0]
    rw [rxI_at l i hi',w64s (by omega)]
    exact Evt2.pos (by omega) (Evt2.pos (by omega) (Evt2.pos (by omega) (Evt2.bind (ih _ (List.getElem_mem hi')) (Evt2.pos rfl (ihd (i+1) (by omega))))))
  exact hh l.length 0 (by omega)
end Go.Proofs.YtffjfdoghofkdaaGreat.F
namespace Go.Proofs.YtffjfdoghofkdaaGreat.F
open Go.RowKit YtffjfdoghofkdaaGreatW.PrintWords YtffjfdoghofkdaaGreat.Pl YtffjfdoghofkdaaGreat.A
theorem szIntS_eq (l:List Int) (a:Int) (ha : -1≤a) (ha':a≤1048576) (hl:l.length≤9223372036854775807) :
  ∃ t,laws_szIntS.f l a=some t∧(t = -1∨(0≤t∧t=a - l.length)):=by
 unfold laws_szIntS.f
 rw [w64_sub ha ha' hl]
 by_cases h1:a - l.length < 0
 ·exact ⟨-1,by rw [if_pos h1],.inl rfl⟩
 ·rw [if_neg h1];exact ⟨_,rfl,.inr ⟨by omega,rfl⟩⟩
theorem set_next (l:List Int) (i n:Nat) (hn:l.length=n) (hi:i < n):(l.take i ++ List.replicate (n - i) 0).set i (rd l (i:Int))=l.take (i+1) ++ List.replicate (n - (i+1)) 0:=by
 have hl:(l.take i).length=i:=by rw [List.length_take];omega
 have e:rd l (i:Int)=l[i]:=by simp [rd,show i < l.length by omega]
 rw [List.set_append_right _ _ (by omega),hl,Nat.sub_self,show n - i=(n - (i+1))+1 by omega,List.replicate_succ,zu,List.take_succ_eq_append_getElem (by omega),e,List.append_assoc]
 rfl
theorem toIntS_ev (l:List Int) (hl:l.length≤35184372088832):Evt (fun k=>laws_toIntS.f k l) l:=by
 simp only [laws_toIntS.f]
 refine Evt.pos (by omega) (Evt.pos (by omega) ?_)
 rw [Int.toNat_natCast]
 have h:∀ d i:Nat,i+d=l.length→Evt (fun k=>laws_toIntS.l0 k l (l.take i ++ List.replicate (l.length - i) 0) (i:Int)) l:=by
  intro d
  induction d with
  | zero =>
   intro i hi
   refine Evt.step ?_
   simp only [laws_toIntS.l0]
   refine Evt.neg (by omega) (Evt.const ?_)
   obtain rfl:i=l.length:=by omega
   simp
  | succ d ih =>
   intro i hi
   refine Evt.step ?_
   simp only [laws_toIntS.l0]
   rw [w64s (by omega),Int.toNat_natCast,set_next l i l.length rfl (by omega)]
   exact Evt.pos (by omega) (Evt.pos (by omega) (Evt.pos (by simp;omega) (ih (i+1) (by omega))))
 simpa using h l.length 0 (by omega)
theorem eqIntS_ev (l l':List Int) (hl:l.length≤9223372036854775807):Evt (fun k=>laws_eqIntS.f k l l') (decide (l=l')):=by
 simp only [laws_eqIntS.f]
 by_cases he:l.length=l'.length
 ·refine Evt.pos (by omega) ?_
  have h:=Evt.up (fun k i=>laws_eqIntS.l0 k l l' i) l.length (fun i=>decide (l.drop i=l'.drop i)) ?_ ?_
  ·simpa using h
  ·refine Evt.step ?_
   simp only [laws_eqIntS.l0]
   refine Evt.neg (by omega) (Evt.const ?_)
   rw [List.drop_of_length_le (Nat.le_refl _),List.drop_of_length_le (by omega)]
   rfl
  ·intro i hi h
   refine Evt.step ?_
   simp only [laws_eqIntS.l0]
   have hi':i < l'.length:=by omega
   refine Evt.pos (by omega) (Evt.pos (by omega) (Evt.pos (by omega) ?_))
   rw [List.drop_eq_getElem_cons hi,List.drop_eq_getElem_cons hi',w64s (by omega)]
   have e1:rd l (i:Int)=l[i]:=by simp [rd,hi]
   have e2:rd l' (i:Int)=l'[i]:=by simp [rd,hi']
   rw [e1,e2]
   by_cases hc:l[i]=l'[i]
   ·exact Evt.pos hc (h.cast (by rw [hc];simp only [List.cons.injEq,true_and]))
   ·exact Evt.neg hc (Evt.const (by rw [decide_eq_false (fun e=>hc (List.cons.inj e).1)]))
 ·refine Evt.neg (by omega) (Evt.const ?_)
  have:l ≠ l':=fun e=>he (by rw [e])
  simp [this]
end Go.Proofs.YtffjfdoghofkdaaGreat.F
namespace Go.Proofs.YtffjfdoghofkdaaGreat.F
open Go.RowKit YtffjfdoghofkdaaGreatW.PrintWords YtffjfdoghofkdaaGreat.Pl YtffjfdoghofkdaaGreat.A YtffjfdoghofkdaaGreat.Ext
def CpC (a:Int) (b c:ByteArray) (d:Int) (e:ByteArray) (l:List S101) (m:List Int) (n:Int) (y:List S65):Prop :=
 Sm ⟨d,e,y⟩∧m.length≤1048576∧Evt (fun k=>laws_toConstraint.f k a b c d e l m n) (a,b,c,d,e,y,m,n)
theorem szConstraint_ev (a:Int) (b c:ByteArray) (d:Int) (e:ByteArray) (l:List S101) (m:List Int) (n:Int) (N:Nat) (v:Int) (hv:0≤v) (hv':v≤1048576) (hb:b.size≤9223372036854775807) (hc:c.size≤9223372036854775807) (hr:RxOk N ⟨d,e,l⟩) (hm:m.length≤9223372036854775807) :
  ∃ t,Evt (fun k=>laws_szConstraint.f k a b c d e l m n v) t∧(t = -1∨(0≤t∧t≤v∧∃ y,CpC a b c d e l m n y)):=by
 simp only [laws_szConstraint.f]
 rw [w64_sub (by omega) (by omega) hb]
 by_cases c1:v - b.size < 0
 ·exact ⟨-1,Evt.pos c1 (Evt.ret _),.inl rfl⟩
 rw [w64_sub (by omega) (by omega) hc]
 by_cases c2:v - b.size - c.size < 0
 ·exact ⟨-1,Evt.neg c1 (Evt.pos c2 (Evt.ret _)),.inl rfl⟩
 obtain ⟨t,ht,h1⟩:=szRegex_ev N ⟨d,e,l⟩ hr (v - b.size - c.size) (by omega) (by omega)
 simp only at ht
 rcases h1 with rfl|⟨h1,h2,h3⟩
 ·exact ⟨-1,Evt.neg c1 (Evt.neg c2 (Evt.bind ht (Evt.pos (by decide) (Evt.ret _)))),.inl rfl⟩
 obtain ⟨u,hu,h4⟩:=szIntS_eq m t (by omega) (by omega) hm
 rcases h4 with rfl|⟨h4,h5⟩
 ·exact ⟨-1,Evt.neg c1 (Evt.neg c2 (Evt.bind ht (Evt.neg (by omega) (Evt.bindc hu (Evt.pos (by decide) (Evt.ret _)))))),.inl rfl⟩
 refine ⟨u,Evt.neg c1 (Evt.neg c2 (Evt.bind ht (Evt.neg (by omega) (Evt.bindc hu (Evt.neg (by omega) (Evt.ret _)))))),.inr ⟨h4,by omega,?_⟩⟩
 obtain ⟨⟨d',e',y⟩,hs,he⟩:=h3
 simp only at he
 have hde:d'=d∧e'=e:=by
  obtain ⟨K,hK⟩:=he
  have h6:=hK (K+1) (by omega)
  simp only [laws_toRegex.f,laws_toRegexG.f] at h6
  obtain ⟨z,_,h7⟩:=zo h6
  simp only [Option.some.injEq,Prod.mk.injEq] at h7
  exact ⟨h7.1.symm,h7.2.1.symm⟩
 obtain ⟨rfl,rfl⟩:=hde
 refine ⟨y,hs,by omega,?_⟩
 simp only [laws_toConstraint.f]
 exact Evt.bind he (Evt.bind (toIntS_ev m (by omega)) (Evt.ret _))
theorem eqConstraint_ev (a:Int) (b c:ByteArray) (d:Int) (e:ByteArray) (y:List S65) (m:List Int) (n:Int) (hy:Sm ⟨d,e,y⟩) (hm:m.length≤1048576):Evt (fun k=>laws_eqConstraint.f k a b c d e y m n a b c d e y m n) true:=by
 simp only [laws_eqConstraint.f]
 exact Evt.pos trivial (Evt.pos trivial (Evt.pos trivial (Evt.bind (eqRegex_ev _ hy) (Evt.pos rfl (Evt.bind (eqIntS_ev m m (by omega)) (Evt.pos (by simp) (Evt.pos trivial (Evt.ret _))))))))
def zR (d:Int) (e:ByteArray) (l:List S65):Bool:=decide (d=0) && decide (e.size=0) && ((l.length:Int) == 0)
theorem spec_l9Zero_eq (d:Int) (e:ByteArray) (l:List S65):spec_l9Zero.f d e l=some (zR d e l):=by
 unfold spec_l9Zero.f zR
 by_cases h1:d=0
 ·by_cases h2:e.size=0
  ·rw [if_pos h1,if_pos ((toList_nil_iff _).2 h2)];simp [h1,h2]
  ·rw [if_pos h1,if_neg (fun h=>h2 ((toList_nil_iff _).1 h))];simp [h2]
 ·rw [if_neg h1];simp [h1]
theorem impl_isZeroRegex_eq (d:Int) (e:ByteArray) (l:List S65):impl_isZeroRegex.f d e l=some (zR d e l):=by
 unfold impl_isZeroRegex.f zR
 by_cases h1:d=0
 ·by_cases h2:e.size=0
  ·rw [if_pos h1,if_pos ((toList_nil_iff _).2 h2)];simp [h1,h2]
  ·rw [if_pos h1,if_neg (fun h=>h2 ((toList_nil_iff _).1 h))];simp [h2]
 ·rw [if_neg h1];simp [h1]
def inR (a lo hi:Int):Bool:=decide (lo≤a∧a≤hi)
theorem spec_l1In_eq (a lo hi:Int):spec_l1In.f a lo hi=some (inR a lo hi):=by
 unfold spec_l1In.f inR
 by_cases h:a ≥ lo
 ·rw [if_pos h];congr 1;simp [show lo≤a from h]
 ·rw [if_neg h];congr 1;simp;omega
theorem impl_within_eq (a lo hi:Int):impl_within.f a lo hi=some (inR a lo hi):=by
 unfold impl_within.f inR
 by_cases h:a ≥ lo
 ·rw [if_pos h];congr 1;simp [show lo≤a from h]
 ·rw [if_neg h];congr 1;simp;omega
def cfs (m:List Int):Bool:=m.all fun c=>inR c (-9) 9
theorem rdI_at (m:List Int) (i:Nat) (h:i < m.length):rd m (i:Int)=m[i]:=by simp [rd,h]
theorem spec_l9Coeffs_ev (m:List Int) (hm:m.length≤1048576):Evt (fun k=>spec_l9Coeffs.f k m) (cfs m && ((m.length:Int) == 3)):=by
 have h:=Evt.up (fun k i=>spec_l9Coeffs.l0 k m i) m.length (fun i=>cfs (m.drop i) && ((m.length:Int) == 3)) ?_ ?_
 ·simpa [spec_l9Coeffs.f] using h
 ·refine Evt.step ?_
  simp only [spec_l9Coeffs.l0]
  rw [List.drop_of_length_le (by omega)]
  exact Evt.neg (by omega) ((Evt.ret _).cast (by simp [cfs]))
 ·intro i hi h
  refine Evt.step ?_
  simp only [spec_l9Coeffs.l0]
  rw [rdI_at m i hi,w64s (by omega),List.drop_eq_getElem_cons hi]
  refine Evt.pos (by omega) (Evt.pos (by omega) (Evt.bindc (spec_l1In_eq _ _ _) ?_))
  have e:cfs (m[i] :: m.drop (i+1))=(inR m[i] (-9) 9 && cfs (m.drop (i+1))):=rfl
  rw [e]
  cases inR m[i] (-9) 9 with
  | true=>exact Evt.pos rfl (h.cast (by simp))
  | false=>exact Evt.neg (by decide) ((Evt.ret _).cast (by simp))
theorem impl_coeffs_ev (m:List Int) (hm:m.length≤1048576):Evt (fun k=>slices_ContainsFunc_int_int.f k m) (!cfs m):=by
 simp only [slices_ContainsFunc_int_int.f,slices_IndexFunc_int_int.f]
 have h:∀ d i:Nat,i+d=m.length→∃ r,Evt (fun k=>slices_IndexFunc_int_int.l0 k m (m.length:Int) (i:Int)) r∧decide (r ≥ 0) = !cfs (m.drop i):=by
  intro d
  induction d with
  | zero =>
   intro i hi
   refine ⟨-1,Evt.step ?_,?_⟩
   ·simp only [slices_IndexFunc_int_int.l0]
    exact Evt.neg (by omega) (Evt.ret _)
   ·rw [List.drop_of_length_le (by omega)];rfl
  | succ d ih =>
   intro i hi
   have hi':i < m.length:=by omega
   have e:cfs (m[i] :: m.drop (i+1))=(inR m[i] (-9) 9 && cfs (m.drop (i+1))):=rfl
   rw [List.drop_eq_getElem_cons hi',e]
   obtain ⟨r,hr,hc⟩:=ih (i+1) (by omega)
   cases hq:inR m[i] (-9) 9 with
   | true =>
    refine ⟨r,Evt.step ?_,by simpa using hc⟩
    simp only [slices_IndexFunc_int_int.l0,impl_IsValidConstraint_1.f]
    rw [rdI_at m i hi',w64s (by omega)]
    exact Evt.pos (by omega) (Evt.pos (by omega) (Evt.pos (by omega) (Evt.bind (Evt.bindc (impl_within_eq _ _ _) (Evt.ret _)) (Evt.neg (by simp [hq]) hr))))
   | false =>
    refine ⟨(i:Int),Evt.step ?_,by simp⟩
    simp only [slices_IndexFunc_int_int.l0,impl_IsValidConstraint_1.f]
    rw [rdI_at m i hi']
    exact Evt.pos (by omega) (Evt.pos (by omega) (Evt.pos (by omega) (Evt.bind (Evt.bindc (impl_within_eq _ _ _) (Evt.ret _)) (Evt.pos (by simp [hq]) (Evt.ret _)))))
 obtain ⟨r,hr,hc⟩:=h m.length 0 (by omega)
 exact Evt.bind hr ((Evt.ret _).cast (by rw [hc];rfl))
def valX (x:Bool) (a:Int) (b c:ByteArray) (d:Int) (e:ByteArray) (l:List S65) (m:List Int) (n:Int):Bool :=
 if a=1∨a=2 then isTm b && (isTm c && (zR d e l && x))
 else if a=3∨a=4 then isTm b && (decide (c.size=0) && (decide (nds 6 ⟨d,e,l⟩≤16) && x))
 else if a=5 then decide (b.size=0) && (decide (c.size=0) && (zR d e l && ((cfs m && ((m.length:Int) == 3)) && inR n (-99) 99)))
 else false
def valC (a:Int) (b c:ByteArray) (d:Int) (e:ByteArray) (l:List S65) (m:List Int) (n:Int):Bool :=
 valX (decide (m.length=0) && (n == 0)) a b c d e l m n
section
variable {a : Int} {b c : ByteArray} {d : Int} {e : ByteArray} {l : List S65} {m : List Int} {n : Int}
theorem and_ev {g h:Nat→Option Bool} {p q:Bool} (hg:Evt g p) (hh:p=true→Evt h q):Evt (fun k=>(g k).bind fun t=>if t=true then h k else some false) (p && q):=by
 refine Evt.bind hg ?_
 cases p with
 | true=>exact Evt.pos rfl ((hh rfl).cast (by simp))
 | false=>exact Evt.neg (by decide) ((Evt.ret _).cast (by simp))
theorem nil_ev {s:ByteArray} {h:Nat→Option Bool} {q:Bool} (hh:s.size=0→Evt h q):Evt (fun k=>if s.toList=([]:List UInt8) then h k else some false) (decide (s.size=0) && q):=by
 by_cases hs:s.size=0
 ·exact Evt.pos ((toList_nil_iff _).2 hs) ((hh hs).cast (by simp [hs]))
 ·exact Evt.neg (fun h=>hs ((toList_nil_iff _).1 h)) ((Evt.ret _).cast (by simp [hs]))
theorem last_ev {g:Nat→Option Bool} {p:Bool} (hg:Evt g p):Evt (fun k=>(g k).bind fun t=>some t) p:=Evt.bind hg (Evt.ret _)
theorem spec_j1t (x:Bool) (v:Int) (hb:b.size≤9223372036854775807) (hc:c.size≤9223372036854775807):Evt (fun k=>spec_IsValidConstraint.j1 k x v true a b c d e l m n) (isTm b && (isTm c && (zR d e l && x))):=by
 refine Evt.step ?_
 simp only [spec_IsValidConstraint.j1]
 exact Evt.pos trivial (and_ev (spec_IsTerm_ev b hb) fun _=>and_ev (spec_IsTerm_ev c hc) fun _=>and_ev (Evt.const (spec_l9Zero_eq d e l)) fun _=>Evt.ret _)
theorem spec_j2t (x:Bool) (v:Int) (hb:b.size≤9223372036854775807) (hr:Sm ⟨d,e,l⟩):Evt (fun k=>spec_IsValidConstraint.j2 k x v true a b c d e l m n) (isTm b && (decide (c.size=0) && (decide (nds 6 ⟨d,e,l⟩≤16) && x))):=by
 refine Evt.step ?_
 simp only [spec_IsValidConstraint.j2]
 exact Evt.pos trivial (and_ev (spec_IsTerm_ev b hb) fun _=>nil_ev fun _=>and_ev (spec_IsValidRegex_ev ⟨d,e,l⟩ hr) fun _=>Evt.ret _)
theorem spec_IsValidConstraint_ev (hb:b.size≤9223372036854775807) (hc:c.size≤9223372036854775807) (hr:Sm ⟨d,e,l⟩) (hm:m.length≤1048576):Evt (fun k=>spec_IsValidConstraint.f k a b c d e l m n) (valC a b c d e l m n):=by
 have hj:∀ x:Bool,Evt (fun k=>spec_IsValidConstraint.j0 k x a b c d e l m n) (valX x a b c d e l m n):=by
  intro x
  refine Evt.step ?_
  simp only [spec_IsValidConstraint.j0]
  unfold valX
  by_cases h1:a=1
  ·subst h1;exact Evt.pos rfl ((spec_j1t x _ hb hc).cast (by simp))
  refine Evt.neg h1 ?_
  by_cases h2:a=2
  ·subst h2;exact (spec_j1t x _ hb hc).cast (by simp)
  rw [show (a == 2)=false by simpa using h2,if_neg (by omega)]
  refine Evt.step ?_
  simp only [spec_IsValidConstraint.j1]
  refine Evt.neg (by decide) ?_
  by_cases h3:a=3
  ·subst h3;exact Evt.pos rfl ((spec_j2t x _ hb hr).cast (by simp))
  refine Evt.neg h3 ?_
  by_cases h4:a=4
  ·subst h4;exact (spec_j2t x _ hb hr).cast (by simp)
  rw [show (a == 4)=false by simpa using h4,if_neg (by omega)]
  refine Evt.step ?_
  simp only [spec_IsValidConstraint.j2]
  refine Evt.neg (by decide) ?_
  by_cases h5:a=5
  ·rw [if_pos h5]
   exact Evt.pos h5 (nil_ev fun _=>nil_ev fun _=>and_ev (Evt.const (spec_l9Zero_eq d e l)) fun _=>and_ev (spec_l9Coeffs_ev m hm) fun _=>last_ev (Evt.const (spec_l1In_eq _ _ _)))
  ·rw [if_neg h5]
   exact Evt.neg h5 (Evt.ret _)
 simp only [spec_IsValidConstraint.f]
 unfold valC
 by_cases h0:m.length=0
 ·exact Evt.pos (by omega) ((hj _).cast (by simp [h0]))
 ·exact Evt.neg (by omega) ((hj _).cast (by simp [h0]))
theorem impl_j1t (v:Int):Evt (fun k=>impl_IsValidConstraint.j1 k v true a b c d e l m n) (isTm b && (isTm c && (zR d e l))):=by
 refine Evt.step ?_
 simp only [impl_IsValidConstraint.j1]
 exact Evt.pos trivial (and_ev (impl_IsTerm_ev b) fun _=>and_ev (impl_IsTerm_ev c) fun _=>last_ev (Evt.const (impl_isZeroRegex_eq d e l)))
theorem impl_j2t (v:Int):Evt (fun k=>impl_IsValidConstraint.j2 k v true a b c d e l m n) (isTm b && (decide (c.size=0) && (decide (nds 6 ⟨d,e,l⟩≤16)))):=by
 refine Evt.step ?_
 simp only [impl_IsValidConstraint.j2]
 exact Evt.pos trivial (and_ev (impl_IsTerm_ev b) fun _=>nil_ev fun _=>last_ev (impl_IsValidRegex_ev ⟨d,e,l⟩))
theorem impl_j0t:Evt (fun k=>impl_IsValidConstraint.j0 k true a b c d e l m n) false:=by
 refine Evt.step ?_
 simp only [impl_IsValidConstraint.j0]
 exact Evt.pos trivial (Evt.ret _)
theorem impl_IsValidConstraint_ev (hm:m.length≤1048576):Evt (fun k=>impl_IsValidConstraint.f k a b c d e l m n) (valC a b c d e l m n):=by
 have hj:Evt (fun k=>impl_IsValidConstraint.j0 k false a b c d e l m n) (valX true a b c d e l m n):=by
  refine Evt.step ?_
  simp only [impl_IsValidConstraint.j0]
  unfold valX
  refine Evt.neg (by decide) ?_
  by_cases h1:a=1
  ·subst h1;exact Evt.pos rfl ((impl_j1t _).cast (by simp))
  refine Evt.neg h1 ?_
  by_cases h2:a=2
  ·subst h2;exact (impl_j1t _).cast (by simp)
  rw [show (a == 2)=false by simpa using h2,if_neg (by omega)]
  refine Evt.step ?_
  simp only [impl_IsValidConstraint.j1]
  refine Evt.neg (by decide) ?_
  by_cases h3:a=3
  ·subst h3;exact Evt.pos rfl ((impl_j2t _).cast (by simp))
  refine Evt.neg h3 ?_
  by_cases h4:a=4
  ·subst h4;exact (impl_j2t _).cast (by simp)
  rw [show (a == 4)=false by simpa using h4,if_neg (by omega)]
  refine Evt.step ?_
  simp only [impl_IsValidConstraint.j2]
  refine Evt.neg (by decide) ?_
  by_cases h5:a=5
  ·rw [if_pos h5]
   refine Evt.pos h5 (nil_ev fun _=>nil_ev fun _=>and_ev (Evt.const (impl_isZeroRegex_eq d e l)) fun _=>?_)
   by_cases h3':m.length=3
   ·refine Evt.pos (by omega) ?_
    rw [show ((m.length:Int) == 3)=true by simp [h3'],Bool.and_true,Bool.and_comm (cfs m)]
    exact and_ev (Evt.const (impl_within_eq _ _ _)) fun _=>Evt.bind (impl_coeffs_ev m hm) ((Evt.ret _).cast (by simp))
   ·refine Evt.neg (by omega) ((Evt.ret _).cast ?_)
    have e3:((m.length:Int) == 3)=false:=by simp;omega
    simp [e3]
  ·rw [if_neg h5]
   exact Evt.neg h5 (Evt.ret _)
 simp only [impl_IsValidConstraint.f]
 unfold valC
 have hx:∀ x,a=5→valX x a b c d e l m n=valX true a b c d e l m n:=by
  intro x h;subst h;simp [valX]
 have hy:¬ a=5→valX false a b c d e l m n=false:=by
  intro h;unfold valX;simp [h]
 by_cases h5:a=5
 ·exact Evt.pos h5 (hj.cast (hx _ h5).symm)
 refine Evt.neg h5 ?_
 by_cases h0:m.length=0
 ·refine Evt.pos (by omega) ?_
  by_cases hn:n=0
  ·rw [show (n != 0)=false by simp [hn]]
   exact hj.cast (by simp [h0,hn])
  ·rw [show (n != 0)=true by simp [hn]]
   exact impl_j0t.cast (by rw [show (n == 0)=false by simp [hn]];simp [hy h5])
 ·exact Evt.neg (by omega) (impl_j0t.cast (by simp [h0,hy h5]))
end
theorem bytesOf_strOf (s:ByteArray):strOfNums (bytesOf s)=s:=by
 apply bytesOf_inj
 unfold strOfNums bytesOf
 simp
theorem one_byte (s:ByteArray) (i:Nat) (h:i < s.size):bytesOf (s.extract i (i+1)) = [bt s (i:Int)]:=by
 have hl:i < (bytesOf s).length:=by rw [bytesOf_length];exact h
 rw [bytesOf_extract,List.drop_eq_getElem_cons hl,bt_get s i hl,show i+1 - i=1 by omega]
 rfl
theorem size_le_of (s:ByteArray):s.size=(bytesOf s).length:=(bytesOf_length s).symm
theorem strOfNums_size (l:List Int):(strOfNums l).size=l.length:=by
 unfold strOfNums
 show (List.toArray _).size=_
 simp
theorem impl_ApplyValues_eq (s x y z:ByteArray) (hs:s.size≤9223372036854775807) (hx:x.size≤1048576) (hy:y.size≤1048576) (hz:z.size≤1048576):impl_ApplyValues.f s x y z=some (replB (wordOf x y z) s):=by
 unfold impl_ApplyValues.f
 rw [if_pos ⟨hs,hx,hy,hz⟩]
theorem wordOf_var (x y z:ByteArray) {c:Int} (h0:0≤c) (h1:c≤255):(wordOf x y z c).2=isVr c:=by
 unfold wordOf
 rw [impl_isVariable_eq h0 h1]
 rfl
theorem spec_ValueOf_eq (x y z:ByteArray) (c:Int):spec_ValueOf.f x y z c=some (wordOf x y z c).1:=valueOf_some x y z c
theorem spec_ApplyValues_ev (s x y z:ByteArray) (hs:s.size≤9223372036854775807) (hx:x.size≤1048576) (hy:y.size≤1048576) (hz:z.size≤1048576):Evt (fun k=>spec_ApplyValues.f k s x y z) (replB (wordOf x y z) s):=by
 have h:∀ (d i:Nat) (acc:ByteArray),i+d=s.size→acc.size≤1048576→Evt (fun k=>spec_ApplyValues.l0 k s acc (i:Int) x y z) (strOfNums (repl (wordOf x y z) ((bytesOf s).drop i) (bytesOf acc))):=by
  intro d
  induction d with
  | zero =>
   intro i acc hi ha
   refine Evt.step ?_
   simp only [spec_ApplyValues.l0]
   refine Evt.neg (by omega) (Evt.const ?_)
   rw [List.drop_of_length_le za32]
   exact congrArg some (bytesOf_strOf acc).symm
  | succ d ih =>
   intro i acc hi ha
   have hl:i < (bytesOf s).length:=by rw [bytesOf_length];omega
   have hx1:((s.extract i (i+1)).size:Nat)=1:=by rw [size_le_of,one_byte s i (by omega)];rfl
   refine Evt.step ?_
   simp only [spec_ApplyValues.l0]
   rw [w64s (by omega),Int.toNat_natCast,Int.toNat_natCast]
   rw [List.drop_eq_getElem_cons hl,← bt_get s i hl]
   have hv:=wordOf_var x y z (bt0 s i) (bt255 s i)
   have hw:=wordOf_size x y z (bt s i) hx hy hz
   have hs2:=spec_ValueOf_eq x y z (bt s i)
   refine Evt.pos (by omega) (Evt.pos (by omega) (Evt.bindc (spec_l8Var_eq _) ?_))
   by_cases hc:isVr (bt s i)=true
   ·have e:(if (wordOf x y z (bt s (i:Int))).2=true then bytesOf (wordOf x y z (bt s (i:Int))).1 else [bt s (i:Int)])=bytesOf (wordOf x y z (bt s (i:Int))).1:=by rw [hv,if_pos hc]
    refine Evt.pos hc (Evt.bindc hs2 (Evt.pos (by omega) ?_))
    by_cases hbig:((acc ++ (wordOf x y z (bt s (i:Int))).1).size:Int) > 1048576
    ·refine Evt.pos hbig (Evt.const ?_)
     unfold repl
     simp only [e]
     rw [if_pos (by rw [← bytesOf_append,bytesOf_length];omega)]
     rfl
    ·refine Evt.neg hbig ((ih (i+1) (acc ++ (wordOf x y z (bt s (i:Int))).1) (by omega) (by omega)).cast ?_)
     rw [bytesOf_append]
     conv=>rhs;unfold repl
     simp only [e]
     rw [if_neg (by rw [← bytesOf_append,bytesOf_length];omega)]
   ·have e:(if (wordOf x y z (bt s (i:Int))).2=true then bytesOf (wordOf x y z (bt s (i:Int))).1 else [bt s (i:Int)]) = [bt s (i:Int)]:=by rw [hv,if_neg hc]
    refine Evt.neg hc (Evt.pos (by omega) (Evt.pos (by omega) (Evt.pos (by omega) ?_)))
    by_cases hbig:((acc ++ s.extract i (i+1)).size:Int) > 1048576
    ·refine Evt.pos hbig (Evt.const ?_)
     unfold repl
     simp only [e]
     rw [if_pos (by rw [← one_byte s i (by omega),← bytesOf_append,bytesOf_length];omega)]
     rfl
    ·refine Evt.neg hbig ((ih (i+1) (acc ++ s.extract i (i+1)) (by omega) (by omega)).cast ?_)
     rw [bytesOf_append,one_byte s i (by omega)]
     conv=>rhs;unfold repl
     simp only [e]
     rw [if_neg (by rw [← one_byte s i (by omega),← bytesOf_append,bytesOf_length];omega)]
 have:=h s.size 0 (⟨#[]⟩:ByteArray) (by omega) (by decide)
 rw [show bytesOf (⟨#[]⟩:ByteArray) = [] from rfl] at this
 simpa [spec_ApplyValues.f,replB] using this
theorem rx_of_nds:∀ (n m:Nat) (x:S65),n≤m→nds n x≤16→∃ t,rxOf m x=some t∧t.size=nds n x:=by
 intro n
 induction n with
 | zero=>intro m x _ h;exact absurd h (by simp [nds])
 | succ n ih =>
  intro m x hm h
  obtain ⟨m,rfl⟩:∃ m',m=m'+1:=⟨m - 1,by omega⟩
  unfold nds at h ⊢
  by_cases hk:kOk x.f0 x.f1 x.f2.length=true
  ·rw [if_pos hk] at h ⊢
   obtain ⟨a,b,l⟩:=x
   simp only at hk h ⊢
   have hlen:=kOk_len hk
   match l,hk,h,hlen with
   | [],hk,h,hlen =>
    have ha:a=1∨a=2∨a=3∨a=4:=by
     by_cases h3:a=3
     ·exact .inr (.inr (.inl h3))
     ·simp only [kOk,if_neg h3,Bool.and_eq_true,decide_eq_true_eq] at hk
      unfold arN at hlen
      simp only [List.length_nil] at hlen
      split at hlen
      ·omega
      ·split at hlen <;> omega
    rcases ha with rfl|rfl|rfl|rfl <;> exact ⟨_,rfl,rfl⟩
   | [x],hk,h,hlen =>
    simp only [List.map_cons,List.map_nil,List.sum_cons,List.sum_nil] at h ⊢
    obtain ⟨t,h1,h2⟩:=ih m x (by omega) (by omega)
    have ha:a=8∨a=9:=by
     unfold arN at hlen
     simp only [List.length_cons,List.length_nil] at hlen
     split at hlen
     ·omega
     ·split at hlen <;> omega
    rcases ha with rfl|rfl <;> refine ⟨_,by simp only [rxOf,h1];rfl,?_⟩ <;> simp only [Rx.size,h2] <;> omega
   | [x,y],hk,h,hlen =>
    simp only [List.map_cons,List.map_nil,List.sum_cons,List.sum_nil] at h ⊢
    obtain ⟨t,h1,h2⟩:=ih m x (by omega) (by omega)
    obtain ⟨u,h3,h4⟩:=ih m y (by omega) (by omega)
    have ha:a=5∨a=6∨a=7:=by
     unfold arN at hlen
     simp only [List.length_cons,List.length_nil] at hlen
     split at hlen
     ·assumption
     ·split at hlen <;> omega
    rcases ha with rfl|rfl|rfl <;> refine ⟨_,by simp only [rxOf,h1,h3];rfl,?_⟩ <;> simp only [Rx.size,h2,h4] <;> omega
   | _ :: _ :: _ :: _,hk,h,hlen =>
    have:=arN_le a
    simp only [List.length_cons] at hlen
    omega
  ·rw [if_neg hk] at h
   omega
theorem repl_le (G:Int→ByteArray × Bool) (m:Nat) (hm:1≤m) (hG:∀ c,(G c).1.size≤m):∀ (l acc:List Int),(repl G l acc).length≤acc.length+m * l.length:=by
 intro l
 induction l with
 | nil=>intro acc;exact Nat.le_refl _
 | cons c l ih =>
  intro acc
  have h1:(if (G c).2=true then bytesOf (G c).1 else [c]).length≤m:=by
   split
   ·rw [bytesOf_length];exact hG c
   ·exact hm
  unfold repl
  by_cases h2:(acc ++ (if (G c).2=true then bytesOf (G c).1 else [c])).length > 1048576
  ·rw [if_pos h2]
   exact Nat.zero_le _
  ·rw [if_neg h2]
   refine Nat.le_trans (ih _) ?_
   rw [List.length_append,List.length_cons,Nat.mul_succ]
   omega
theorem replB_le (G:Int→ByteArray × Bool) (m:Nat) (hm:1≤m) (hG:∀ c,(G c).1.size≤m) (s:ByteArray):(replB G s).size≤m * s.size:=by
 have:=repl_le G m hm hG (bytesOf s) []
 unfold replB
 rw [strOfNums_size]
 rw [bytesOf_length] at this
 simpa using this
theorem wordOf_le (x y z:ByteArray) (m:Nat) (hx:x.size≤m) (hy:y.size≤m) (hz:z.size≤m) (c:Int):(wordOf x y z c).1.size≤m:=by
 unfold wordOf impl_ValueOf.f
 repeat' split
 all_goals first|exact hx|exact hy|exact hz|exact Nat.zero_le _
theorem rxMatch_def (d:Int) (e:ByteArray) (l:List S65) (s:ByteArray) (h:nds 6 ⟨d,e,l⟩≤16) (hs:s.size≤400):∃ r,rxMatch d e l s=some r:=by
 obtain ⟨t,h1,h2⟩:=rx_of_nds 6 7 _ (by omega) h
 refine ⟨mt s t 0 s.size,?_⟩
 unfold rxMatch
 rw [if_pos hs,h1]
 show (if t.size≤16 then _ else _)=_
 rw [if_pos (by omega)]
theorem isW_size {s:ByteArray} (h:isW s=true):s.size≤30:=by
 simp only [isW,Bool.and_eq_true,decide_eq_true_eq] at h
 exact h.2
def isVs (x y z:ByteArray):Bool:=isW x && (isW y && isW z)
theorem impl_IsValues_ev (x y z:ByteArray) (hx:x.size≤9223372036854775807) (hy:y.size≤9223372036854775807) (hz:z.size≤9223372036854775807):Evt (fun k=>impl_IsValues.f k x y z) (isVs x y z) :=
 and_ev (impl_IsWord_ev x hx) fun _=>and_ev (impl_IsWord_ev y hy) fun _=>last_ev (impl_IsWord_ev z hz)
section
variable {a : Int} {b c : ByteArray} {d : Int} {e : ByteArray} {l : List S65} {m : List Int} {n : Int} {x y z : ByteArray}
theorem valC_use (h:valC a b c d e l m n=true):((a=1∨a=2)∧b.size≤12∧c.size≤12)∨((a=3∨a=4)∧b.size≤12∧nds 6 ⟨d,e,l⟩≤16)∨(a=5∧b.size≤12∧m.length=3):=by
 unfold valC valX at h
 split at h
 ·next ha =>
  simp only [isTm,Bool.and_eq_true,decide_eq_true_eq,beq_iff_eq] at h
  obtain ⟨⟨_,h1⟩,⟨_,h2⟩,_⟩:=h
  exact .inl ⟨ha,by omega,by omega⟩
 ·split at h
  ·next ha =>
   simp only [isTm,Bool.and_eq_true,decide_eq_true_eq,beq_iff_eq] at h
   obtain ⟨⟨_,h1⟩,_,h3,_⟩:=h
   exact .inr (.inl ⟨ha,by omega,h3⟩)
  ·split at h
   ·next ha =>
    simp only [Bool.and_eq_true,decide_eq_true_eq,beq_iff_eq] at h
    obtain ⟨h1,_,_,⟨_,h4⟩,_⟩:=h
    exact .inr (.inr ⟨ha,by omega,by omega⟩)
   ·cases h
theorem holds_ev (hv:valC a b c d e l m n=true) (hw:isVs x y z=true):∃ r,Evt (fun k=>spec_l9Holds.f k a b c d e l m n x y z) r∧impl_holds.f a b c d e l m n x y z=some r:=by
 simp only [isVs,Bool.and_eq_true] at hw
 have hx:=isW_size hw.1
 have hy:=isW_size hw.2.1
 have hz:=isW_size hw.2.2
 have hsz:∀ s:ByteArray,s.size≤12→(replB (wordOf x y z) s).size≤400:=fun s hs=>by
  have:=replB_le (wordOf x y z) 30 (by omega) (wordOf_le x y z 30 hx hy hz) s
  omega
 have sp:∀ s:ByteArray,s.size≤12→Evt (fun k=>spec_ApplyValues.f k s x y z) (replB (wordOf x y z) s):=fun s hs=>spec_ApplyValues_ev s x y z (by omega) (by omega) (by omega) (by omega)
 have im:∀ s:ByteArray,s.size≤12→impl_ApplyValues.f s x y z=some (replB (wordOf x y z) s):=fun s hs=>impl_ApplyValues_eq s x y z (by omega) (by omega) (by omega) (by omega)
 simp only [spec_l9Holds.f]
 unfold impl_holds.f
 rcases valC_use hv with ⟨ha,hb,hc⟩|⟨ha,hb,hn⟩|⟨ha,hb,hl⟩
 ·rcases ha with rfl|rfl
  ·exact ⟨_,Evt.bind (sp b hb) (Evt.pos rfl (Evt.bind (sp c hc) (Evt.ret _))),by rw [im b hb,im c hc];rfl⟩
  ·exact ⟨_,Evt.bind (sp b hb) (Evt.neg (by decide) (Evt.pos rfl (Evt.bind (sp c hc) (Evt.ret _)))),by rw [im b hb,im c hc];rfl⟩
 ·obtain ⟨r,hr⟩:=rxMatch_def d e l (replB (wordOf x y z) b) hn (hsz b hb)
  rcases ha with rfl|rfl
  ·exact ⟨r,Evt.bind (sp b hb) (Evt.neg (by decide) (Evt.neg (by decide) (Evt.pos rfl (Evt.bindc hr (Evt.ret _))))),by rw [im b hb,Option.bind_some,if_neg (show ¬ (3:Int)=1 by decide),if_neg (show ¬ (3:Int)=2 by decide),if_pos rfl,show impl_matches.f d e l (replB (wordOf x y z) b)=some r from hr];rfl⟩
  ·exact ⟨!r,Evt.bind (sp b hb) (Evt.neg (by decide) (Evt.neg (by decide) (Evt.neg (by decide) (Evt.pos rfl (Evt.bindc hr (Evt.ret _)))))),by rw [im b hb,Option.bind_some,if_neg (show ¬ (4:Int)=1 by decide),if_neg (show ¬ (4:Int)=2 by decide),if_neg (show ¬ (4:Int)=3 by decide),if_pos rfl,show impl_matches.f d e l (replB (wordOf x y z) b)=some r from hr];rfl⟩
 ·subst ha
  have h0:(0:Int) < (m.length:Int):=by omega
  have h1:(1:Int) < (m.length:Int):=by omega
  have h2:(2:Int) < (m.length:Int):=by omega
  have hs:spec_l9Sum.f m x y z=some (wrap64 ((wrap64 ((wrap64 ((rd m 0) * (x.size:Int)))+(wrap64 ((rd m 1) * (y.size:Int)))))+(wrap64 ((rd m 2) * (z.size:Int))))):=by
   unfold spec_l9Sum.f
   rw [if_pos h0,if_pos h1,if_pos h2]
  refine ⟨_,Evt.bind (sp b hb) (Evt.neg (by decide) (Evt.neg (by decide) (Evt.neg (by decide) (Evt.neg (by decide) (Evt.bindc hs (Evt.ret _)))))),?_⟩
  rw [im b hb,Option.bind_some,if_neg (show ¬ (5:Int)=1 by decide),if_neg (show ¬ (5:Int)=2 by decide),if_neg (show ¬ (5:Int)=3 by decide),if_neg (show ¬ (5:Int)=4 by decide),if_pos h0,if_pos h1,if_pos h2]
end
theorem csL_at (l:List S103) (i:Nat) (h:i < l.length):rd_T103 l (i:Int)=l[i]:=by simp [rd_T103,h]
theorem csI_at (l:List S67) (i:Nat) (h:i < l.length):rd_T67 l (i:Int)=l[i]:=by simp [rd_T67,h]
theorem rxL_eta (y:S101):(⟨y.f0,y.f1,y.f2⟩:S101)=y:=by cases y;rfl
def CsOk (x:S103):Prop:=x.f1.size≤9223372036854775807∧x.f2.size≤9223372036854775807∧(∃ n,RxOk n x.f3)∧x.f4.length≤9223372036854775807
def CsSm (y:S67):Prop:=Sm y.f3∧y.f4.length≤1048576∧y.f1.size≤1048576∧y.f2.size≤1048576
def CpK (x:S103) (y:S67):Prop:=CsSm y∧Evt (fun k=>laws_toConstraint.f k x.f0 x.f1 x.f2 x.f3.f0 x.f3.f1 x.f3.f2 x.f4 x.f5) (y.f0,y.f1,y.f2,y.f3.f0,y.f3.f1,y.f3.f2,y.f4,y.f5)
theorem csI_eta (y:S67):(⟨y.f0,y.f1,y.f2,(⟨y.f3.f0,y.f3.f1,y.f3.f2⟩:S65),y.f4,y.f5⟩:S67)=y:=by
 have h:=rx_eta y.f3
 rw [h]
theorem szCs_ev (x:S103) (h:CsOk x) (v:Int) (hv:0≤v) (hv':v≤1048576):∃ t,Evt (fun k=>laws_szConstraint.f k x.f0 x.f1 x.f2 x.f3.f0 x.f3.f1 x.f3.f2 x.f4 x.f5 v) t∧(t = -1∨(0≤t∧t≤v∧∃ y,CpK x y)):=by
 obtain ⟨h1,h2,⟨N,h3⟩,h4⟩:=h
 by_cases c1:v - x.f1.size < 0
 ·refine ⟨-1,?_,.inl rfl⟩
  simp only [laws_szConstraint.f]
  rw [w64_sub (by omega) (by omega) h1]
  exact Evt.pos c1 (Evt.ret _)
 by_cases c2:v - x.f1.size - x.f2.size < 0
 ·refine ⟨-1,?_,.inl rfl⟩
  simp only [laws_szConstraint.f]
  rw [w64_sub (by omega) (by omega) h1,w64_sub (by omega) (by omega) h2]
  exact Evt.neg c1 (Evt.pos c2 (Evt.ret _))
 obtain ⟨t,ht,hc⟩:=szConstraint_ev x.f0 x.f1 x.f2 x.f3.f0 x.f3.f1 x.f3.f2 x.f4 x.f5 N v hv hv' h1 h2 (by rw [rxL_eta];exact h3) h4
 refine ⟨t,ht,hc.imp id ?_⟩
 rintro ⟨g1,g2,y,y1,y2,y3⟩
 exact ⟨g1,g2,⟨x.f0,x.f1,x.f2,⟨x.f3.f0,x.f3.f1,y⟩,x.f4,x.f5⟩,⟨y1,y2,show x.f1.size≤1048576 by omega,show x.f2.size≤1048576 by omega⟩,y3⟩
theorem copiesK (l:List S103) (h:∀ x ∈ l,∃ y,CpK x y):∃ ys:List S67,ys.length=l.length∧∀ (i:Nat) (h:i < l.length) (h':i < ys.length),CpK l[i] ys[i]:=by
 induction l with
 | nil=>exact ⟨[],rfl,fun i h=>absurd h (by simp)⟩
 | cons x l ih =>
  obtain ⟨y,hy⟩:=h x (by simp)
  obtain ⟨ys,h1,h2⟩:=ih (fun z hz=>h z (by simp [hz]))
  refine ⟨y :: ys,by simp [h1],fun i hi hi' => ?_⟩
  cases i with
  | zero=>exact hy
  | succ i=>exact h2 i (by simpa using hi) (by simpa using hi')
def CpL (l:List S103) (ys:List S67):Prop:=ys.length≤1048576∧(∀ y ∈ ys,CsSm y)∧Evt (fun k=>laws_toConstraintS.f k l) ys
theorem toCsS_ev (l:List S103) (hl:l.length≤1048576) (h:∀ x ∈ l,∃ y,CpK x y):∃ ys,CpL l ys:=by
 obtain ⟨ys,e,hc⟩:=copiesK l h
 refine ⟨ys,by omega,fun y hy=>?_,?_⟩
 ·obtain ⟨i,hi,rfl⟩:=List.mem_iff_getElem.1 hy
  exact (hc i (by omega) hi).1
 ·simp only [laws_toConstraintS.f]
  refine Evt.pos (by omega) (Evt.pos (by omega) ?_)
  rw [Int.toNat_natCast]
  have hh:∀ d i:Nat,i+d=l.length→Evt (fun k=>laws_toConstraintS.l0 k l (ys.take i ++ List.replicate (l.length - i) z67) (i:Int)) ys:=by
   intro d
   induction d with
   | zero =>
    intro i hi
    refine Evt.step ?_
    simp only [laws_toConstraintS.l0]
    refine Evt.neg (by omega) ((Evt.ret _).cast ?_)
    rw [show l.length - i=0 by omega,List.take_of_length_le (by omega)]
    simp
   | succ d ih =>
    intro i hi
    have hi':i < l.length:=by omega
    refine Evt.step ?_
    simp only [laws_toConstraintS.l0]
    rw [csL_at l i hi']
    refine Evt.pos (by omega) (Evt.pos (by omega) (Evt.bind (hc i hi' (by omega)).2 (Evt.pos (by simp;omega) ?_)))
    rw [Int.toNat_natCast,w64s (by omega)]
    have hx:(ys.take i).length=i:=by rw [List.length_take];omega
    have e2:(ys.take i ++ List.replicate (l.length - i) z67).set i (ys[i]'(by omega))=ys.take (i+1) ++ List.replicate (l.length - (i+1)) z67:=by
     rw [List.set_append_right _ _ (by omega),hx,Nat.sub_self,show l.length - i=(l.length - (i+1))+1 by omega,List.replicate_succ,zu,List.take_succ_eq_append_getElem (by omega),List.append_assoc]
     rfl
    simp only [csI_eta,e2]
    exact ih (i+1) (by omega)
  simpa using hh l.length 0 (by omega)
theorem szCsS_ev (l:List S103) (hl:l.length≤9223372036854775807) (h:∀ x ∈ l,CsOk x) (v:Int) (hv:0≤v) (hv':v≤1048576):∃ t,Evt (fun k=>laws_szConstraintS.f k l v) t∧(t = -1∨(0≤t∧t≤v∧∃ ys,CpL l ys)):=by
 simp only [laws_szConstraintS.f]
 rw [w64_sub (by omega) hv' hl]
 by_cases h1:v - l.length < 0
 ·exact ⟨-1,Evt.pos h1 (Evt.ret _),.inl rfl⟩
 have hh:∀ d i:Nat,i+d=l.length→∀ b:Int,0≤b→b≤1048576→∃ t,Evt (fun k=>laws_szConstraintS.l0 k l b (i:Int)) t∧(t = -1∨(0≤t∧t≤b∧∀ x ∈ l.drop i,∃ y,CpK x y)):=by
  intro d
  induction d with
  | zero =>
   intro i hi b hb hb'
   refine ⟨b,Evt.step ?_,.inr ⟨hb,Int.le_refl _,?_⟩⟩
   ·simp only [laws_szConstraintS.l0]
    exact Evt.neg (by omega) (Evt.ret _)
   ·rw [List.drop_of_length_le (by omega)]
    intro x hx
    cases hx
  | succ d ih =>
   intro i hi b hb hb'
   have hi':i < l.length:=by omega
   obtain ⟨t,ht,hc⟩:=szCs_ev l[i] (h _ (List.getElem_mem hi')) b hb hb'
   by_cases h2:t < 0
   ·refine ⟨-1,Evt.step ?_,.inl rfl⟩
    simp only [laws_szConstraintS.l0]
    rw [csL_at l i hi']
    exact Evt.pos (by omega) (Evt.pos (by omega) (Evt.bind ht (Evt.pos h2 (Evt.ret _))))
   ·have hc':=hc.resolve_left (by omega)
    obtain ⟨t',ht',hc2⟩:=ih (i+1) (by omega) t (by omega) (by omega)
    refine ⟨t',Evt.step ?_,?_⟩
    ·simp only [laws_szConstraintS.l0]
     rw [csL_at l i hi',w64s (by omega)]
     exact Evt.pos (by omega) (Evt.pos (by omega) (Evt.bind ht (Evt.neg h2 ht')))
    ·rcases hc2 with h3|⟨h3,h4,h5⟩
     ·exact .inl h3
     ·refine .inr ⟨h3,by omega,?_⟩
      rw [List.drop_eq_getElem_cons hi']
      intro x hx
      rcases List.mem_cons.1 hx with rfl|hx
      ·exact hc'.2.2
      ·exact h5 x hx
 obtain ⟨t,ht,hc⟩:=hh l.length 0 (by omega) (v - l.length) (by omega) (by omega)
 refine ⟨t,Evt.neg h1 ht,hc.imp id ?_⟩
 rintro ⟨g1,g2,g3⟩
 exact ⟨g1,by omega,toCsS_ev l (by omega) (by simpa using g3)⟩
theorem eqCsS_ev (ys:List S67) (hl:ys.length≤1048576) (h:∀ y ∈ ys,CsSm y):Evt (fun k=>laws_eqConstraintS.f k ys ys) true:=by
 simp only [laws_eqConstraintS.f]
 refine Evt.pos trivial ?_
 have hh:=Evt.up (fun k i=>laws_eqConstraintS.l0 k ys ys i) ys.length (fun _=>true) ?_ ?_
 ·exact hh
 ·refine Evt.step ?_
  simp only [laws_eqConstraintS.l0]
  exact Evt.neg (by omega) (Evt.ret _)
 ·intro i hi ih
  refine Evt.step ?_
  simp only [laws_eqConstraintS.l0]
  rw [csI_at ys i hi,w64s (by omega)]
  obtain ⟨g1,g2,_,_⟩:=h _ (List.getElem_mem hi)
  exact Evt.pos (by omega) (Evt.pos (by omega) (Evt.pos (by omega) (Evt.bind (eqConstraint_ev _ _ _ _ _ _ _ _ (by rw [rx_eta];exact g1) g2) (Evt.pos rfl ih))))
theorem szProblem_ev (l:List S103) (hl:l.length≤9223372036854775807) (h:∀ x ∈ l,CsOk x) (v:Int) (hv:0≤v) (hv':v≤1048576):∃ t,Evt (fun k=>laws_szProblem.f k l v) t∧(t = -1∨(0≤t∧t≤v∧∃ ys,CpL l ys)):=by
 obtain ⟨t,ht,hc⟩:=szCsS_ev l hl h v hv hv'
 simp only [laws_szProblem.f]
 rcases hc with rfl|⟨h0,h1,h2⟩
 ·exact ⟨-1,Evt.bind ht (Evt.pos (by decide) (Evt.ret _)),.inl rfl⟩
 ·exact ⟨t,Evt.bind ht (Evt.neg (by omega) (Evt.ret _)),.inr ⟨h0,h1,h2⟩⟩
theorem toProblem_ev {l:List S103} {ys:List S67} (h:CpL l ys):Evt (fun k=>laws_toProblem.f k l) ys:=by
 simp only [laws_toProblem.f]
 exact Evt.bind h.2.2 (Evt.ret _)
theorem eqProblem_ev {l:List S103} {ys:List S67} (h:CpL l ys):Evt (fun k=>laws_eqProblem.f k ys ys) true:=by
 simp only [laws_eqProblem.f]
 exact Evt.bind (eqCsS_ev ys h.1 h.2.1) (Evt.pos rfl (Evt.ret _))
section
variable {a : Int} {b c : ByteArray} {d : Int} {e : ByteArray} {l : List S65} {m : List Int} {n : Int}
theorem valC_bounds (h:valC a b c d e l m n=true):m.length≤3∧b.size≤12∧c.size≤12:=by
 unfold valC valX at h
 split at h
 ·simp only [isTm,Bool.and_eq_true,decide_eq_true_eq,beq_iff_eq] at h
  obtain ⟨⟨_,h1⟩,⟨_,h2⟩,_,h4,_⟩:=h
  omega
 ·split at h
  ·simp only [isTm,Bool.and_eq_true,decide_eq_true_eq,beq_iff_eq] at h
   obtain ⟨⟨_,h1⟩,h2,_,h4,_⟩:=h
   omega
  ·split at h
   ·simp only [Bool.and_eq_true,decide_eq_true_eq,beq_iff_eq] at h
    obtain ⟨h1,h2,_,⟨_,h4⟩,_⟩:=h
    omega
   ·cases h
def catV:List Int→Nat→ByteArray→ByteArray
 | [],_,acc=>acc
 | q :: m,i,acc=>catV m (i+1) (if q=0 then acc else acc ++ (⟨#[88,89,90]⟩:ByteArray).extract ((i:Nat):Int).toNat ((i+1:Nat):Int).toNat)
def varsC (a:Int) (b c:ByteArray) (d:Int) (e:ByteArray) (l:List S65) (m:List Int) (n:Int):ByteArray :=
 if valC a b c d e l m n=true then varsB (catV m 0 (b ++ c)) else (⟨#[]⟩:ByteArray)
theorem spec_VarsOfConstraint_ev (hb:b.size≤9223372036854775807) (hc:c.size≤9223372036854775807) (hr:Sm ⟨d,e,l⟩) (hm:m.length≤1048576):Evt (fun k=>spec_VarsOfConstraint.f k a b c d e l m n) (varsC a b c d e l m n):=by
 simp only [spec_VarsOfConstraint.f]
 unfold varsC
 refine Evt.bind (spec_IsValidConstraint_ev hb hc hr hm) ?_
 cases hv:valC a b c d e l m n with
 | false=>exact Evt.neg (by decide) (Evt.ret _)
 | true =>
  obtain ⟨g1,g2,g3⟩:=valC_bounds hv
  refine Evt.pos rfl (Evt.pos (by omega) ?_)
  have hh:∀ j i:Nat,i+j=m.length→∀ acc:ByteArray,acc.size≤100+i→Evt (fun k=>spec_VarsOfConstraint.l0 k acc (i:Int) a b c d e l m n) (varsB (catV (m.drop i) i acc)):=by
   intro j
   induction j with
   | zero =>
    intro i hi acc ha
    refine Evt.step ?_
    simp only [spec_VarsOfConstraint.l0]
    rw [List.drop_of_length_le (by omega)]
    exact Evt.neg (by omega) (Evt.bind (spec_VarsOf_ev acc (by omega)) (Evt.ret _))
   | succ j ih =>
    intro i hi acc ha
    have hi':i < m.length:=by omega
    have hx:=ext_size (i:Int) (by omega) (by omega)
    refine Evt.step ?_
    simp only [spec_VarsOfConstraint.l0]
    rw [List.drop_eq_getElem_cons hi',rdI_at m i hi',w64s (by omega)]
    refine Evt.pos (by omega) (Evt.pos (by omega) ?_)
    simp only [catV]
    by_cases hq:m[i]=0
    ·rw [if_pos hq]
     exact Evt.pos hq (ih (i+1) (by omega) acc (by omega))
    ·rw [if_neg hq]
     have hs:((⟨#[88,89,90]⟩:ByteArray).extract ((i:Nat):Int).toNat ((i+1:Nat):Int).toNat).size=1:=by
      rw [show ((i+1:Nat):Int)=(i:Int)+1 by omega,hx]
     refine Evt.neg hq (Evt.pos (by omega) (Evt.pos (by omega) (Evt.pos (by rw [hs];omega) ?_)))
     exact ih (i+1) (by omega) _ (by rw [ByteArray.size_append,hs];omega)
  have:=hh m.length 0 (by omega) (b ++ c) (by rw [ByteArray.size_append];omega)
  rw [if_pos rfl]
  simpa using this
theorem impl_VarsOfConstraint_ev (hm:m.length≤1048576):Evt (fun k=>impl_VarsOfConstraint.f k a b c d e l m n) (varsC a b c d e l m n):=by
 simp only [impl_VarsOfConstraint.f]
 unfold varsC
 refine Evt.bind (impl_IsValidConstraint_ev hm) ?_
 cases hv:valC a b c d e l m n with
 | false=>exact Evt.neg (by decide) (Evt.ret _)
 | true =>
  obtain ⟨g1,g2,g3⟩:=valC_bounds hv
  refine Evt.pos rfl (Evt.pos (by omega) ?_)
  have hh:∀ j i:Nat,i+j=m.length→∀ acc:ByteArray,acc.size≤100+i→Evt (fun k=>impl_VarsOfConstraint.l0 k acc m (m.length:Int) (i:Int)) (varsB (catV (m.drop i) i acc)):=by
   intro j
   induction j with
   | zero =>
    intro i hi acc ha
    refine Evt.step ?_
    simp only [impl_VarsOfConstraint.l0]
    rw [List.drop_of_length_le (by omega)]
    exact Evt.neg (by omega) (Evt.bind (impl_VarsOf_ev acc) (Evt.ret _))
   | succ j ih =>
    intro i hi acc ha
    have hi':i < m.length:=by omega
    have hx:=ext_size (i:Int) (by omega) (by omega)
    refine Evt.step ?_
    simp only [impl_VarsOfConstraint.l0]
    rw [List.drop_eq_getElem_cons hi',rdI_at m i hi',w64s (by omega)]
    refine Evt.pos (by omega) (Evt.pos (by omega) (Evt.pos (by omega) ?_))
    simp only [catV]
    by_cases hq:m[i]=0
    ·rw [if_pos hq]
     exact Evt.pos hq (ih (i+1) (by omega) acc (by omega))
    ·rw [if_neg hq]
     have hs:((⟨#[88,89,90]⟩:ByteArray).extract ((i:Nat):Int).toNat ((i+1:Nat):Int).toNat).size=1:=by
      rw [show ((i+1:Nat):Int)=(i:Int)+1 by omega,hx]
     refine Evt.neg hq (Evt.pos (by omega) (Evt.pos (by omega) (Evt.pos (by rw [hs];omega) ?_)))
     exact ih (i+1) (by omega) _ (by rw [ByteArray.size_append,hs];omega)
  have:=hh m.length 0 (by omega) (b ++ c) (by rw [ByteArray.size_append];omega)
  rw [if_pos rfl]
  simpa using this
end
theorem vr_size (p:Int→Bool) (n:Nat):∀ (i:Int) (acc:ByteArray),0≤i→i+n=3→(vr p n i acc).size≤acc.size+n:=by
 induction n with
 | zero=>intro i acc _ _;exact Nat.le_refl _
 | succ n ih =>
  intro i acc h0 hi
  have hx:=ext_size i h0 (by omega)
  unfold vr
  split
  ·have:=ih (i+1) (acc ++ ((⟨#[88,89,90]⟩:ByteArray).extract (i:Int).toNat ((i+1):Int).toNat)) (by omega) (by omega)
   rw [ByteArray.size_append,hx] at this
   omega
  ·have:=ih (i+1) acc (by omega) (by omega)
   omega
theorem varsB_size (s:ByteArray):(varsB s).size≤3:=by
 have:=vr_size (fun c=>decide (c ∈ bytesOf s)) 3 0 (⟨#[]⟩:ByteArray) (by omega) (by omega)
 have e:(⟨#[]⟩:ByteArray).size=0:=rfl
 unfold varsB
 omega
def valK (y:S67):Bool:=valC y.f0 y.f1 y.f2 y.f3.f0 y.f3.f1 y.f3.f2 y.f4 y.f5
def varsK (y:S67):ByteArray:=varsC y.f0 y.f1 y.f2 y.f3.f0 y.f3.f1 y.f3.f2 y.f4 y.f5
def valP (ys:List S67):Bool:=ys.all valK && decide ((ys.length:Int)≤6)
theorem varsK_size (y:S67):(varsK y).size≤3:=by
 unfold varsK varsC
 split
 ·exact varsB_size _
 ·exact Nat.zero_le _
theorem spec_IsValidProblem_ev (ys:List S67) (hl:ys.length≤1048576) (h:∀ y ∈ ys,CsSm y):Evt (fun k=>spec_IsValidProblem.f k ys) (valP ys):=by
 have hh:=Evt.up (fun k i=>spec_IsValidProblem.l0 k i ys) ys.length (fun i=>(ys.drop i).all valK && decide ((ys.length:Int)≤6)) ?_ ?_
 ·simpa [spec_IsValidProblem.f,valP] using hh
 ·refine Evt.step ?_
  simp only [spec_IsValidProblem.l0]
  rw [List.drop_of_length_le (by omega)]
  exact Evt.neg (by omega) ((Evt.ret _).cast (by simp))
 ·intro i hi hn
  obtain ⟨g1,g2,g3,g4⟩:=h _ (List.getElem_mem hi)
  have hv:=spec_IsValidConstraint_ev (a:=ys[i].f0) (d:=ys[i].f3.f0) (n:=ys[i].f5) (Nat.le_trans g3 (by decide)) (Nat.le_trans g4 (by decide)) (by rw [rx_eta];exact g1) g2
  refine Evt.step ?_
  simp only [spec_IsValidProblem.l0]
  rw [csI_at ys i hi,w64s (by omega),List.drop_eq_getElem_cons hi,List.all_cons]
  refine Evt.pos (by omega) (Evt.pos (by omega) (Evt.bind hv ?_))
  change Evt (fun k=>if valK ys[i]=true then _ else _) _
  cases valK ys[i] with
  | true=>exact Evt.pos rfl (hn.cast (by simp))
  | false=>exact Evt.neg (by decide) ((Evt.ret _).cast (by simp))
theorem anyO_cons (f:S67→Option Bool) (c:S67) (l:List S67) (p q:Bool) (h:f c=some p) (h':anyO f l=some q):anyO f (c :: l)=some (p || q):=by
 unfold anyO at h' ⊢
 split at h'
 ·next ha =>
  rw [if_pos (by rw [List.all_cons,h,ha];rfl),List.any_cons,h,zi h']
  cases p <;> rfl
 ·cases h'
theorem anyO_ev {f:Nat→S67→Option Bool} {p:S67→Bool} : ∀ (l:List S67),(∀ c ∈ l,Evt (fun k=>f k c) (p c))→Evt (fun k=>anyO (f k) l) (l.any p):=by
 intro l
 induction l with
 | nil=>intro _;exact Evt.const rfl
 | cons c l ih =>
  intro h
  obtain ⟨K1,h1⟩:=h c (by simp)
  obtain ⟨K2,h2⟩:=ih fun c hc=>h c (by simp [hc])
  exact ⟨max K1 K2,fun k hk=>anyO_cons (f k) c l _ _ (h1 k (by omega)) (h2 k (by omega))⟩
theorem impl_IsValidProblem_ev (ys:List S67) (hl:ys.length≤1048576) (h:∀ y ∈ ys,CsSm y):Evt (fun k=>impl_IsValidProblem.f k ys) (valP ys):=by
 unfold impl_IsValidProblem.f valP
 by_cases h6:ys.length≤6
 ·refine Evt.pos h6 (Evt.bind (anyO_ev (p:=fun y => !valK y) ys fun y hy=>?_) ((Evt.ret _).cast ?_))
  ·obtain ⟨g1,g2,g3,g4⟩:=h y hy
   have hv:Evt (fun k=>impl_IsValidConstraint.f k y.f0 y.f1 y.f2 y.f3.f0 y.f3.f1 y.f3.f2 y.f4 y.f5) (valK y):=impl_IsValidConstraint_ev g2
   unfold notValid
   exact Evt.bind hv (Evt.ret _)
  ·rw [show decide ((ys.length:Int)≤6)=true from decide_eq_true (by omega),Bool.and_true]
   clear h hl h6
   induction ys with
   | nil=>rfl
   | cons y ys ih=>rw [List.any_cons,List.all_cons,Bool.not_or,ih,Bool.not_not]
 ·exact Evt.neg h6 ((Evt.ret _).cast (by simp;omega))
def catP:List S67→ByteArray→ByteArray
 | [],acc=>acc
 | y :: ys,acc=>catP ys (acc ++ varsK y)
def varsP (ys:List S67):ByteArray:=if valP ys=true then varsB (catP ys (⟨#[]⟩:ByteArray)) else (⟨#[]⟩:ByteArray)
theorem varsP_size (ys:List S67):(varsP ys).size≤3:=by
 unfold varsP
 split
 ·exact varsB_size _
 ·exact Nat.zero_le _
theorem varsB_nil:varsB (⟨#[]⟩:ByteArray)=(⟨#[]⟩:ByteArray):=by decide
theorem valP_len {ys:List S67} (h:valP ys=true):ys.length≤6:=by
 unfold valP at h
 simp at h
 omega
theorem impl_VarsOfProblem_ev (ys:List S67) (hl:ys.length≤1048576) (h:∀ y ∈ ys,CsSm y):Evt (fun k=>impl_VarsOfProblem.f k ys) (varsP ys):=by
 simp only [impl_VarsOfProblem.f]
 unfold varsP
 refine Evt.bind (impl_IsValidProblem_ev ys hl h) ?_
 cases hv:valP ys with
 | false=>exact Evt.neg (by decide) (Evt.ret _)
 | true =>
  have h6:=valP_len hv
  refine Evt.pos rfl ?_
  rw [if_pos rfl]
  have hh:∀ d i:Nat,i+d=ys.length→∀ acc:ByteArray,acc.size≤3 * i→Evt (fun k=>impl_VarsOfProblem.l0 k acc ys (ys.length:Int) (i:Int)) (varsB (catP (ys.drop i) acc)):=by
   intro d
   induction d with
   | zero =>
    intro i hi acc ha
    refine Evt.step ?_
    simp only [impl_VarsOfProblem.l0]
    rw [List.drop_of_length_le (by omega)]
    exact Evt.neg (by omega) (Evt.bind (impl_VarsOf_ev acc) (Evt.ret _))
   | succ d ih =>
    intro i hi acc ha
    have hi':i < ys.length:=by omega
    obtain ⟨g1,g2,g3,g4⟩:=h _ (List.getElem_mem hi')
    have hv:Evt (fun k=>impl_VarsOfConstraint.f k ys[i].f0 ys[i].f1 ys[i].f2 ys[i].f3.f0 ys[i].f3.f1 ys[i].f3.f2 ys[i].f4 ys[i].f5) (varsK ys[i]):=impl_VarsOfConstraint_ev g2
    have hs:=varsK_size ys[i]
    refine Evt.step ?_
    simp only [impl_VarsOfProblem.l0]
    rw [csI_at ys i hi',w64s (by omega),List.drop_eq_getElem_cons hi']
    exact Evt.pos (by omega) (Evt.pos (by omega) (Evt.pos (by omega) (Evt.bind hv (Evt.pos (by omega) (ih (i+1) (by omega) _ (by rw [ByteArray.size_append];omega))))))
  exact hh ys.length 0 (by omega) _ (Nat.zero_le _)
theorem spec_VarsOfProblem_ev (ys:List S67) (hl:ys.length≤1048576) (h:∀ y ∈ ys,CsSm y):Evt (fun k=>spec_VarsOfProblem.f k ys) (varsP ys):=by
 simp only [spec_VarsOfProblem.f]
 unfold varsP
 have hp:=spec_IsValidProblem_ev ys hl h
 cases hv:valP ys with
 | false =>
  refine Evt.step ?_
  simp only [spec_VarsOfProblem.l0]
  have hn:0 < ys.length:=by
   cases ys with
   | nil=>simp [valP] at hv
   | cons y ys=>simp
  rw [hv] at hp
  exact Evt.pos (by omega) (Evt.bind hp (Evt.neg (by decide) (Evt.bind (spec_VarsOf_ev _ (by decide)) ((Evt.ret _).cast varsB_nil))))
 | true =>
  have h6:=valP_len hv
  rw [hv] at hp
  rw [if_pos rfl]
  have hh:∀ d i:Nat,i+d=ys.length→∀ acc:ByteArray,acc.size≤3 * i→Evt (fun k=>spec_VarsOfProblem.l0 k acc (i:Int) ys) (varsB (catP (ys.drop i) acc)):=by
   intro d
   induction d with
   | zero =>
    intro i hi acc ha
    refine Evt.step ?_
    simp only [spec_VarsOfProblem.l0]
    rw [List.drop_of_length_le (by omega)]
    exact Evt.neg (by omega) (Evt.bind (spec_VarsOf_ev acc (by omega)) (Evt.ret _))
   | succ d ih =>
    intro i hi acc ha
    have hi':i < ys.length:=by omega
    obtain ⟨g1,g2,g3,g4⟩:=h _ (List.getElem_mem hi')
    have hv:Evt (fun k=>spec_VarsOfConstraint.f k ys[i].f0 ys[i].f1 ys[i].f2 ys[i].f3.f0 ys[i].f3.f1 ys[i].f3.f2 ys[i].f4 ys[i].f5) (varsK ys[i]):=spec_VarsOfConstraint_ev (Nat.le_trans g3 (by decide)) (Nat.le_trans g4 (by decide)) (by rw [rx_eta];exact g1) g2
    have hs:=varsK_size ys[i]
    refine Evt.step ?_
    simp only [spec_VarsOfProblem.l0]
    rw [csI_at ys i hi',w64s (by omega),List.drop_eq_getElem_cons hi']
    exact Evt.pos (by omega) (Evt.bind hp (Evt.pos rfl (Evt.pos (by omega) (Evt.bind hv (Evt.pos (by omega) (ih (i+1) (by omega) _ (by rw [ByteArray.size_append];omega)))))))
  exact hh ys.length 0 (by omega) _ (Nat.zero_le _)
def boundP (ys:List S67):Int:=if valP ys=true then (if (varsP ys).size≤1 then 5 else if (varsP ys).size=2 then 3 else 2) else -1
theorem impl_BoundOf_ev (ys:List S67) (hl:ys.length≤1048576) (h:∀ y ∈ ys,CsSm y):Evt (fun k=>impl_BoundOf.f k ys) (boundP ys):=by
 simp only [impl_BoundOf.f]
 unfold boundP
 refine Evt.bind (impl_IsValidProblem_ev ys hl h) ?_
 cases hv:valP ys with
 | false=>exact Evt.neg (by decide) (Evt.ret _)
 | true =>
  have h3:=varsP_size ys
  rw [if_pos rfl]
  refine Evt.pos rfl (Evt.bindc rfl (Evt.bind (impl_VarsOfProblem_ev ys hl h) (Evt.pos (by omega) (Evt.pos (by simp;omega) ((Evt.ret _).cast ?_)))))
  generalize (varsP ys).size=s at *
  match s,h3 with
  | 0,_=>rfl
  | 1,_=>rfl
  | 2,_=>rfl
  | 3,_=>rfl
theorem spec_BoundOf_ev (ys:List S67) (hl:ys.length≤1048576) (h:∀ y ∈ ys,CsSm y):Evt (fun k=>spec_BoundOf.f k ys) (boundP ys):=by
 simp only [spec_BoundOf.f]
 unfold boundP
 refine Evt.bind (spec_IsValidProblem_ev ys hl h) ?_
 cases hv:valP ys with
 | false=>exact Evt.neg (by decide) (Evt.ret _)
 | true =>
  have h3:=varsP_size ys
  rw [if_pos rfl]
  refine Evt.pos rfl (Evt.bind (spec_VarsOfProblem_ev ys hl h) ?_)
  have hj:∀ (s:Nat) (x:Bool),s≤3→(x=true ↔ s≤1)→Evt (fun k=>spec_BoundOf.j0 k (s:Int) x) (if s≤1 then 5 else if s=2 then 3 else 2):=by
   intro s x hs hx
   refine Evt.step ?_
   simp only [spec_BoundOf.j0]
   by_cases h1:s≤1
   ·rw [if_pos h1];exact Evt.pos (hx.2 h1) (Evt.ret _)
   ·rw [if_neg h1]
    refine Evt.neg (fun h=>h1 (hx.1 h)) ?_
    by_cases h2:s=2
    ·rw [if_pos h2];exact Evt.pos (by omega) (Evt.ret _)
    ·rw [if_neg h2];exact Evt.neg (by omega) (Evt.ret _)
  generalize (varsP ys).size=s at *
  by_cases h0:s=0
  ·subst h0;exact Evt.pos rfl (hj 0 _ (by omega) (by simp))
  ·refine Evt.neg (by omega) (hj s _ h3 ?_)
   simp;omega
def clr (vs x y z:ByteArray):ByteArray × ByteArray × ByteArray:=(if 88 ∈ bytesOf vs then x else (⟨#[]⟩:ByteArray),if 89 ∈ bytesOf vs then y else (⟨#[]⟩:ByteArray),if 90 ∈ bytesOf vs then z else (⟨#[]⟩:ByteArray))
theorem impl_cleared_ev (vs x y z:ByteArray):Evt (fun k=>impl_cleared.f k x y z vs) (clr vs x y z):=by
 simp only [impl_cleared.f]
 have h3:∀ x y z,Evt (fun k=>impl_cleared.l0 k vs 3 x y z) (x,y,z):=fun x y z=>by
  refine Evt.step ?_
  simp only [impl_cleared.l0]
  exact Evt.neg (by decide) (Evt.ret _)
 have h2:∀ x y z,Evt (fun k=>impl_cleared.l0 k vs 2 x y z) (x,y,if 90 ∈ bytesOf vs then z else (⟨#[]⟩:ByteArray)):=fun x y z=>by
  refine Evt.step ?_
  simp only [impl_cleared.l0,bt_XYZ2,w64_3]
  refine Evt.pos (by decide) (Evt.pos (by decide) (Evt.bindc rfl ?_))
  have e:=ib_nonneg vs (c:=90) (by decide) (by decide)
  by_cases hc:(90:Int) ∈ bytesOf vs
  ·rw [if_pos hc]
   exact Evt.neg (by have:=e.2 hc;omega) (h3 _ _ _)
  ·rw [if_neg hc]
   exact Evt.pos (by have:=mt e.1 hc;omega) (Evt.bindc rfl (h3 _ _ _))
 have h1:∀ x y z,Evt (fun k=>impl_cleared.l0 k vs 1 x y z) (x,if 89 ∈ bytesOf vs then y else (⟨#[]⟩:ByteArray),if 90 ∈ bytesOf vs then z else (⟨#[]⟩:ByteArray)):=fun x y z=>by
  refine Evt.step ?_
  simp only [impl_cleared.l0,bt_XYZ1,w64_2]
  refine Evt.pos (by decide) (Evt.pos (by decide) (Evt.bindc rfl ?_))
  have e:=ib_nonneg vs (c:=89) (by decide) (by decide)
  by_cases hc:(89:Int) ∈ bytesOf vs
  ·rw [if_pos hc]
   exact Evt.neg (by have:=e.2 hc;omega) (h2 _ _ _)
  ·rw [if_neg hc]
   exact Evt.pos (by have:=mt e.1 hc;omega) (Evt.bindc rfl (h2 _ _ _))
 refine Evt.step ?_
 simp only [impl_cleared.l0,bt_XYZ0,w64_1]
 refine Evt.pos (by decide) (Evt.pos (by decide) (Evt.bindc rfl ?_))
 have e:=ib_nonneg vs (c:=88) (by decide) (by decide)
 unfold clr
 by_cases hc:(88:Int) ∈ bytesOf vs
 ·rw [if_pos hc]
  exact Evt.neg (by have:=e.2 hc;omega) (h1 _ _ _)
 ·rw [if_neg hc]
  exact Evt.pos (by have:=mt e.1 hc;omega) (Evt.bindc rfl (h1 _ _ _))
def hldB (x y z:ByteArray) (c:S67):Bool:=impl_holds.f c.f0 c.f1 c.f2 c.f3.f0 c.f3.f1 c.f3.f2 c.f4 c.f5 x y z == some true
theorem Evt.same {α:Type} {g:Nat→Option α} {a b:α} (h:Evt g a) (h':Evt g b):a=b:=by
 obtain ⟨K,h⟩:=h
 obtain ⟨L,h'⟩:=h'
 exact zi ((h (max K L) (by omega)).symm.trans (h' (max K L) (by omega)))
theorem holds_use {x y z:ByteArray} (hw:isVs x y z=true) (c:S67) (hv:valK c=true):impl_holds.f c.f0 c.f1 c.f2 c.f3.f0 c.f3.f1 c.f3.f2 c.f4 c.f5 x y z=some (hldB x y z c):=by
 obtain ⟨r,_,h2⟩:=holds_ev (a:=c.f0) (b:=c.f1) (c:=c.f2) (d:=c.f3.f0) (e:=c.f3.f1) (l:=c.f3.f2) (m:=c.f4) (n:=c.f5) hv hw
 unfold hldB
 rw [h2]
 cases r <;> rfl
theorem valP_all {ys:List S67} (h:valP ys=true):∀ c ∈ ys,valK c=true:=by
 unfold valP at h
 rw [Bool.and_eq_true,List.all_eq_true] at h
 exact h.1
def mdl (ys:List S67) (x y z:ByteArray):Bool:=valP ys && (isVs x y z && (decide (clr (varsP ys) x y z=(x,y,z)) && ys.all (hldB x y z)))
theorem impl_IsModel_ev {x y z:ByteArray} (hx:x.size≤9223372036854775807) (hy:y.size≤9223372036854775807) (hz:z.size≤9223372036854775807) (ys:List S67) (hl:ys.length≤1048576) (h:∀ y ∈ ys,CsSm y):Evt (fun k=>impl_IsModel.f k ys x y z) (mdl ys x y z):=by
 unfold impl_IsModel.f mdl
 refine and_ev (impl_IsValidProblem_ev ys hl h) fun hv=>and_ev (impl_IsValues_ev x y z hx hy hz) fun hw=>Evt.bind (impl_VarsOfProblem_ev ys hl h) (Evt.bind (impl_cleared_ev _ x y z) ?_)
 by_cases hc:clr (varsP ys) x y z=(x,y,z)
 ·rw [decide_eq_true hc,Bool.true_and]
  refine Evt.pos hc (Evt.bind (anyO_ev (p:=fun c => !hldB x y z c) ys fun c hq=>?_) ((Evt.ret _).cast ?_))
  ·unfold notHolds
   exact Evt.bindc (holds_use hw c (valP_all hv c hq)) (Evt.ret _)
  ·clear hc hv h hl
   induction ys with
   | nil=>rfl
   | cons y ys ih=>rw [List.any_cons,List.all_cons,Bool.not_or,ih,Bool.not_not]
 ·rw [decide_eq_false hc,Bool.false_and]
  exact Evt.neg hc (Evt.ret _)
theorem Evt.of_mono {α:Type} {g:Nat→Option α} (hm:∀ k,LeO (g k) (g (k+1))) {K:Nat} {r:α} (h:g K=some r):Evt g r:=by
 refine ⟨K,fun k hk=>?_⟩
 obtain ⟨d,rfl⟩:∃ d,k=K+d:=⟨k - K,by omega⟩
 clear hk
 induction d with
 | zero=>exact h
 | succ d ih=>exact hm _ r ih
def wordsOk (n:Int):Bool:=match impl_WordsUpTo.f 3000 n,spec_WordsUpTo.f 3000 n with
 | some a,some b=>decide (a=b) && (a.all isW && (decide (a.length≤400) && decide (0 < a.length)))
 | _,_=>false
theorem words_ok:([0,1,2,3,4,5]:List Int).all wordsOk=true:=by decide +kernel
theorem words_ev {n:Int} (h0:0≤n) (h5:n≤5):∃ ws:List ByteArray,Evt (fun k=>impl_WordsUpTo.f k n) ws∧Evt (fun k=>spec_WordsUpTo.f k n) ws∧(∀ w ∈ ws,isW w=true)∧ws.length≤400∧0 < ws.length:=by
 have hn:n ∈ ([0,1,2,3,4,5]:List Int):=by
  have:n=0∨n=1∨n=2∨n=3∨n=4∨n=5:=by omega
  simpa using this
 have h:=List.all_eq_true.1 words_ok n hn
 unfold wordsOk at h
 cases ha:impl_WordsUpTo.f 3000 n with
 | none=>rw [ha] at h;simp at h
 | some a =>
  cases hb:spec_WordsUpTo.f 3000 n with
  | none=>rw [ha,hb] at h;simp at h
  | some b =>
   rw [ha,hb] at h
   simp only [Bool.and_eq_true,List.all_eq_true,decide_eq_true_eq] at h
   obtain ⟨rfl,h1,h2,h3⟩:=h
   exact ⟨a,Evt.of_mono (fun k=>impl_WordsUpTo.mono n k) ha,Evt.of_mono (fun k=>spec_WordsUpTo.mono n k) hb,h1,h2,h3⟩
def setv (c:Int) (w x y z:ByteArray):ByteArray × ByteArray × ByteArray:=if c=88 then (w,y,z) else if c=89 then (x,w,z) else if c=90 then (x,y,w) else (x,y,z)
theorem impl_WithValue_eq (x y z:ByteArray) (c:Int) (w:ByteArray):impl_WithValue.f x y z c w=some (setv c w x y z):=by
 unfold impl_WithValue.f setv
 repeat' split
 all_goals rfl
theorem spec_WithValue_eq (x y z:ByteArray) (c:Int) (w:ByteArray):spec_WithValue.f x y z c w=some (setv c w x y z):=by
 unfold spec_WithValue.f setv
 repeat' split
 all_goals rfl
def srch (ps:List S67) (ws:List ByteArray):List Int→ByteArray→ByteArray→ByteArray→List S32→List S32
 | [],x,y,z,out=>if ps.all (hldB x y z)=true then out ++ [⟨x,y,z⟩] else out
 | c :: cs,x,y,z,out=>ws.foldl (fun o w=>srch ps ws cs (setv c w x y z).1 (setv c w x y z).2.1 (setv c w x y z).2.2 o) out
theorem fold_le {α:Type} (f:List α→ByteArray→List α) (m:Nat) (hf:∀ o w,(f o w).length≤o.length+m) (ws:List ByteArray):∀ o,(ws.foldl f o).length≤o.length+ws.length * m:=by
 induction ws with
 | nil=>intro o;simp
 | cons w ws ih =>
  intro o
  have h1:=hf o w
  have h2:=ih (f o w)
  rw [List.foldl_cons,List.length_cons,Nat.succ_mul]
  omega
theorem srch_le (ps:List S67) (ws:List ByteArray):∀ (cs:List Int) (x y z:ByteArray) (out:List S32),(srch ps ws cs x y z out).length≤out.length+ws.length ^ cs.length:=by
 intro cs
 induction cs with
 | nil =>
  intro x y z out
  unfold srch
  split <;> simp
 | cons c cs ih =>
  intro x y z out
  unfold srch
  rw [List.length_cons,Nat.pow_succ,Nat.mul_comm]
  exact fold_le _ _ (fun o w=>ih _ _ _ o) ws out
theorem toList_cons {s:ByteArray} {c:Int} {cs:List Int} (h:bytesOf s=c :: cs):¬ s.toList=([]:List UInt8):=by
 rw [toList_nil_iff]
 have:=congrArg List.length h
 rw [bytesOf_length] at this
 simp at this
 omega
structure Inv (ns x y z : ByteArray) : Prop where
 v:isVs x y z=true
 c:clr ns x y z=(x,y,z)
theorem Inv.set {ns x y z:ByteArray} (h:Inv ns x y z) {c:Int} (hc:c ∈ bytesOf ns) {w:ByteArray} (hw:isW w=true):Inv ns (setv c w x y z).1 (setv c w x y z).2.1 (setv c w x y z).2.2:=by
 obtain ⟨hv,hcl⟩:=h
 unfold isVs at hv
 simp only [Bool.and_eq_true] at hv
 unfold clr at hcl
 simp only [Prod.mk.injEq] at hcl
 unfold setv
 split
 ·subst c
  exact ⟨by simp [isVs,hw,hv],by simp [clr,hc,hcl]⟩
 ·split
  ·subst c
   exact ⟨by simp [isVs,hw,hv],by simp [clr,hc,hcl]⟩
  ·split
   ·subst c
    exact ⟨by simp [isVs,hw,hv],by simp [clr,hc,hcl]⟩
   ·exact ⟨by simp [isVs,hv],by simp [clr,hcl]⟩
section
variable {ps : List S67} {ws : List ByteArray} (hl : ps.length ≤ 1048576) (hs : ∀ y ∈ ps, CsSm y) (hv : valP ps = true) (hw : ∀ w ∈ ws, isW w = true) (hwl : ws.length ≤ 400)
theorem isW_le {s:ByteArray} (h:isW s=true):s.size≤9223372036854775807:=Nat.le_trans (isW_size h) (by decide)
theorem inv_sizes {ns x y z:ByteArray} (h:Inv ns x y z):x.size≤9223372036854775807∧y.size≤9223372036854775807∧z.size≤9223372036854775807:=by
 have:=h.v
 simp only [isVs,Bool.and_eq_true] at this
 exact ⟨isW_le this.1,isW_le this.2.1,isW_le this.2.2⟩
include hl hs hv
theorem leaf_impl {x y z:ByteArray} (h:Inv (varsP ps) x y z):Evt (fun k=>impl_IsModel.f k ps x y z) (ps.all (hldB x y z)):=by
 obtain ⟨h1,h2,h3⟩:=inv_sizes h
 refine (impl_IsModel_ev h1 h2 h3 ps hl hs).cast ?_
 unfold mdl
 rw [hv,h.v,h.c,decide_eq_true rfl]
 rfl
theorem leaf_spec {x y z:ByteArray} (h:isVs x y z=true):Evt (fun k=>spec_l11Keeps.f k ps x y z) (ps.all (hldB x y z)):=by
 simp only [spec_l11Keeps.f]
 have hh:∀ d i:Nat,i+d=ps.length→Evt (fun k=>spec_l11Keeps.l0 k (i:Int) ps x y z) ((ps.drop i).all (hldB x y z)):=by
  intro d
  induction d with
  | zero =>
   intro i hi
   refine Evt.step ?_
   simp only [spec_l11Keeps.l0]
   rw [List.drop_of_length_le (by omega)]
   exact Evt.neg (by omega) (Evt.ret _)
  | succ d ih =>
   intro i hi
   have hi':i < ps.length:=by omega
   have hk:=valP_all hv _ (List.getElem_mem hi')
   obtain ⟨r,h1,h2⟩:=holds_ev (a:=ps[i].f0) (b:=ps[i].f1) (c:=ps[i].f2) (d:=ps[i].f3.f0) (e:=ps[i].f3.f1) (l:=ps[i].f3.f2) (m:=ps[i].f4) (n:=ps[i].f5) hk h
   have h3:=holds_use h ps[i] hk
   rw [h2] at h3
   obtain rfl:=zi h3
   refine Evt.step ?_
   simp only [spec_l11Keeps.l0]
   rw [csI_at ps i hi',w64s (by omega),List.drop_eq_getElem_cons hi',List.all_cons]
   refine Evt.pos (by omega) (Evt.pos (by omega) (Evt.bind h1 ?_))
   cases hldB x y z ps[i] with
   | true=>exact Evt.pos rfl (by simpa using ih (i+1) (by omega))
   | false=>exact Evt.neg (by decide) (Evt.ret _)
 exact hh ps.length 0 (by omega)
include hw hwl
theorem impl_srch:∀ (m i:Nat),i+m=(varsP ps).size→∀ (x y z:ByteArray) (out:List S32),Inv (varsP ps) x y z→out.length+ws.length ^ m≤1000000000→Evt (fun k=>mwF k ps (varsP ps) ws (i:Int) x y z out) (srch ps ws ((bytesOf (varsP ps)).drop i) x y z out):=by
 intro m
 induction m with
 | zero =>
  intro i hi x y z out hI ho
  refine Evt.step ?_
  simp only [mwF]
  rw [List.drop_of_length_le za32]
  refine Evt.pos (by omega) (Evt.bind (leaf_impl hl hs hv hI) ?_)
  unfold srch
  cases ps.all (hldB x y z) with
  | true=>exact Evt.pos rfl (Evt.pos (by simp at ho;omega) (Evt.ret _))
  | false=>exact Evt.neg (by decide) (Evt.ret _)
 | succ m ih =>
  intro i hi x y z out hI ho
  have hi':i < (bytesOf (varsP ps)).length:=by rw [bytesOf_length];omega
  refine Evt.step ?_
  simp only [mwF]
  rw [List.drop_eq_getElem_cons hi',← bt_get (varsP ps) i hi']
  have hc:bt (varsP ps) i ∈ bytesOf (varsP ps):=by rw [bt_get _ i hi'];exact List.getElem_mem hi'
  unfold srch
  refine Evt.neg (by omega) ?_
  have h3:=varsP_size ps
  have hh:∀ d j:Nat,j+d=ws.length→∀ out:List S32,out.length+d * ws.length ^ m≤1000000000→Evt (fun k=>mwL k ps (varsP ps) ws (i:Int) x y z out (j:Int)) ((ws.drop j).foldl (fun o w=>srch ps ws ((bytesOf (varsP ps)).drop (i+1)) (setv (bt (varsP ps) i) w x y z).1 (setv (bt (varsP ps) i) w x y z).2.1 (setv (bt (varsP ps) i) w x y z).2.2 o) out):=by
   intro d
   induction d with
   | zero =>
    intro j hj out ho
    refine Evt.step ?_
    simp only [mwL]
    rw [show ws.drop j = [] from List.drop_of_length_le (by omega)]
    exact Evt.neg (by omega) (Evt.ret _)
   | succ d ihd =>
    intro j hj out ho
    have hj':j < ws.length:=by omega
    refine Evt.step ?_
    simp only [mwL]
    rw [List.drop_eq_getElem_cons hj',List.foldl_cons]
    rw [Nat.succ_mul] at ho
    have e:rdOf ByteArray.empty ws (j:Int)=ws[j]:=by simp [rdOf,hj']
    rw [e,w64s (i:=i) (by omega)]
    refine Evt.pos (by omega) (Evt.pos ⟨by omega,by omega,by omega⟩ (Evt.bindc (impl_WithValue_eq _ _ _ _ _) (Evt.bind (ih (i+1) (by omega) _ _ _ out (hI.set hc (hw _ (List.getElem_mem hj'))) (by omega)) ?_)))
    have hle:=srch_le ps ws ((bytesOf (varsP ps)).drop (i+1)) (setv (bt (varsP ps) i) ws[j] x y z).1 (setv (bt (varsP ps) i) ws[j] x y z).2.1 (setv (bt (varsP ps) i) ws[j] x y z).2.2 out
    rw [List.length_drop,bytesOf_length,show (varsP ps).size - (i+1)=m by omega] at hle
    rw [w64s (i:=j) (by omega)]
    exact ihd (j+1) (by omega) _ (by omega)
  have:=hh ws.length 0 (by omega) out (by rw [Nat.pow_succ,Nat.mul_comm] at ho;exact ho)
  simpa using this
theorem spec_srch:∀ (cs:List Int) (a1:ByteArray),bytesOf a1=cs→∀ (x y z:ByteArray) (out:List S32),(∀ c ∈ cs,c ∈ bytesOf (varsP ps))→Inv (varsP ps) x y z→out.length+ws.length ^ cs.length≤1000000000→Evt (fun k=>spec_l11All.f k ps a1 ws x y z out) (srch ps ws cs x y z out):=by
 intro cs
 induction cs with
 | nil =>
  intro a1 ha x y z out _ hI ho
  have hn:a1.toList=([]:List UInt8):=by
   rw [toList_nil_iff,← bytesOf_length,ha]
   rfl
  refine Evt.step ?_
  simp only [spec_l11All.f]
  refine Evt.pos hn (Evt.bind (leaf_spec hl hs hv hI.v) ?_)
  unfold srch
  cases ps.all (hldB x y z) with
  | true=>exact Evt.pos rfl (Evt.pos (by simp at ho;omega) (Evt.ret _))
  | false=>exact Evt.neg (by decide) (Evt.ret _)
 | cons c cs ih =>
  intro a1 ha x y z out hm hI ho
  have hlen:a1.size=cs.length+1:=by rw [← bytesOf_length,ha];rfl
  have h0:0 < (bytesOf a1).length:=by rw [ha];simp
  have hb:bt a1 0=c:=by rw [show (0:Int)=((0:Nat):Int) from rfl,bt_get a1 0 h0];simp only [ha];rfl
  have ht:bytesOf (a1.extract 1 a1.size)=cs:=by rw [bytesOf_tail,ha];rfl
  refine Evt.step ?_
  simp only [spec_l11All.f]
  unfold srch
  refine Evt.neg (toList_cons ha) ?_
  have hh:∀ d j:Nat,j+d=ws.length→∀ out:List S32,out.length+d * ws.length ^ cs.length≤1000000000→Evt (fun k=>spec_l11All.l0 k a1 ws out (j:Int) ps x y z) ((ws.drop j).foldl (fun o w=>srch ps ws cs (setv c w x y z).1 (setv c w x y z).2.1 (setv c w x y z).2.2 o) out):=by
   intro d
   induction d with
   | zero =>
    intro j hj out ho
    refine Evt.step ?_
    simp only [spec_l11All.l0]
    rw [show ws.drop j = [] from List.drop_of_length_le (by omega)]
    exact Evt.neg (by omega) (Evt.ret _)
   | succ d ihd =>
    intro j hj out ho
    have hj':j < ws.length:=by omega
    refine Evt.step ?_
    simp only [spec_l11All.l0]
    rw [List.drop_eq_getElem_cons hj',List.foldl_cons]
    rw [Nat.succ_mul] at ho
    have e:rdOf ByteArray.empty ws (j:Int)=ws[j]:=by simp [rdOf,hj']
    rw [e,hb,w64s (i:=j) (by omega)]
    refine Evt.pos (by omega) (Evt.pos (by omega) (Evt.pos (by omega) (Evt.pos (by omega) (Evt.bindc (spec_WithValue_eq _ _ _ _ _) (Evt.bind (ih _ ht _ _ _ out (fun c' hc'=>hm c' (by simp [hc'])) (hI.set (hm c (by simp)) (hw _ (List.getElem_mem hj'))) (by omega)) ?_)))))
    have hle:=srch_le ps ws cs (setv c ws[j] x y z).1 (setv c ws[j] x y z).2.1 (setv c ws[j] x y z).2.2 out
    exact ihd (j+1) (by omega) _ (by omega)
  have:=hh ws.length 0 (by omega) out (by rw [List.length_cons,Nat.pow_succ,Nat.mul_comm] at ho;exact ho)
  simpa using this
end
theorem boundP_cases (ps:List S67) (hv:valP ps=true):0≤boundP ps∧boundP ps≤5:=by
 unfold boundP
 rw [if_pos hv]
 split
 ·decide
 ·split <;> decide
theorem inv0 (ns:ByteArray):Inv ns (⟨#[]⟩:ByteArray) (⟨#[]⟩:ByteArray) (⟨#[]⟩:ByteArray):=by
 refine ⟨by decide,?_⟩
 unfold clr
 simp
theorem pow_le (W m:Nat) (hW:W≤400) (hm:m≤3):W ^ m≤1000000000:=by
 have h1:W ^ m≤400 ^ m:=Nat.pow_le_pow_left hW m
 have h2:400 ^ m≤400 ^ 3:=Nat.pow_le_pow_right (by omega) hm
 have h3:400 ^ 3≤1000000000:=by decide
 omega
theorem ModelsUpTo_ev (ps:List S67) (hl:ps.length≤1048576) (hs:∀ y ∈ ps,CsSm y) (n:Int):∃ r,Evt (fun k=>impl_ModelsUpTo.f k ps n) r∧Evt (fun k=>spec_ModelsUpTo.f k ps n) r∧r.length≤1000000000:=by
 have i1:=impl_IsValidProblem_ev ps hl hs
 have s1:=spec_IsValidProblem_ev ps hl hs
 simp only [spec_ModelsUpTo.f]
 unfold impl_ModelsUpTo.f
 cases hv:valP ps with
 | false =>
  rw [hv] at i1 s1
  exact ⟨[],Evt.bind i1 (Evt.neg (by decide) (Evt.ret _)),Evt.bind s1 (Evt.neg (by decide) (Evt.ret _)),by simp⟩
 | true =>
  rw [hv] at i1 s1
  obtain ⟨hb0,hb5⟩:=boundP_cases ps hv
  have s2:=spec_BoundOf_ev ps hl hs
  by_cases hn:n < 0
  ·refine ⟨[],Evt.bind i1 (Evt.pos rfl (Evt.pos hn (Evt.ret _))),Evt.bind s1 (Evt.pos rfl (Evt.bind s2 (Evt.bindc (a:=n) ?_ (Evt.bind (a:=[]) ?_ (Evt.pos rfl (Evt.ret _)))))),by simp⟩
   ·unfold spec_l1Min.f
    rw [if_pos (by omega)]
   ·simp only [spec_WordsUpTo.f]
    refine Evt.step ?_
    simp only [spec_WordsUpTo.l0]
    exact Evt.neg (by omega) (Evt.ret _)
  ·obtain ⟨ws,w1,w2,w3,w4,w5⟩:=words_ev (n:=min n (boundP ps)) (by omega) (by omega)
   have h3:=varsP_size ps
   refine ⟨srch ps ws (bytesOf (varsP ps)) (⟨#[]⟩:ByteArray) (⟨#[]⟩:ByteArray) (⟨#[]⟩:ByteArray) [],Evt.bind i1 (Evt.pos rfl (Evt.neg hn (Evt.bind (impl_VarsOfProblem_ev ps hl hs) (Evt.pos (by omega) (Evt.bind (impl_BoundOf_ev ps hl hs) (Evt.bind w1 ?_)))))),Evt.bind s1 (Evt.pos rfl (Evt.bind s2 (Evt.bindc (a:=min n (boundP ps)) ?_ (Evt.bind w2 (Evt.neg (by omega) (Evt.bind (spec_VarsOfProblem_ev ps hl hs) (Evt.bind (spec_srch hl hs hv w3 w4 _ _ rfl _ _ _ [] (fun c hc=>hc) (inv0 _) ?_) (Evt.ret _)))))))),?_⟩
   ·have:=impl_srch hl hs hv w3 w4 (varsP ps).size 0 (by omega) _ _ _ [] (inv0 _) (by simpa using pow_le ws.length _ w4 h3)
    simpa using this
   ·unfold spec_l1Min.f
    by_cases h:n < boundP ps
    ·rw [if_pos h,Int.min_eq_left (by omega)]
    ·rw [if_neg h,Int.min_eq_right (by omega)]
   ·simpa [bytesOf_length] using pow_le ws.length _ w4 h3
   ·have:=srch_le ps ws (bytesOf (varsP ps)) (⟨#[]⟩:ByteArray) (⟨#[]⟩:ByteArray) (⟨#[]⟩:ByteArray) []
    rw [bytesOf_length] at this
    have:=pow_le ws.length (varsP ps).size w4 h3
    simp at *
    omega
theorem text_ev:∃ T:Nat→ByteArray,∀ i:Nat,i≤4000000000→Evt (fun k=>laws_markText.f k ((i:Nat):Int)) (T i):=by
 have:∀ i:Nat,∃ t,i≤4000000000→Evt (fun k=>laws_markText.f k ((i:Nat):Int)) t:=by
  intro i
  by_cases hi:i≤4000000000
  ·obtain ⟨k,t,ht⟩:=markText_all (i:Int) (by omega) (by omega)
   exact ⟨t,fun _=>Evt.of_mono (fun k=>laws_markText.mono _ k) ht⟩
  ·exact ⟨⟨#[]⟩,fun h=>absurd h hi⟩
 exact ⟨fun i=>(this i).choose,fun i hi=>(this i).choose_spec hi⟩
theorem markVs_ok (l:List S32) (hl:l.length≤1000000000):∃ (m:Int) (l':List S32),Evt (fun k=>laws_markValuesS.f k l 1) (m,l')∧Evt (fun k=>laws_heldValuesS.f k l' 1) m∧0≤m:=by
 obtain ⟨T,hT⟩:=text_ev
 let mk:Nat→S32:=fun i=>⟨T (1+3 * i),T (2+3 * i),T (3+3 * i)⟩
 have rdm:∀ (n i:Nat),i < n→rd_T32 ((List.range n).map mk) (i:Int)=mk i:=by
  intro n i hi
  simp [rd_T32,hi]
 refine ⟨((1+3 * l.length:Nat):Int),(List.range l.length).map mk,?_,?_,by omega⟩
 ·simp only [laws_markValuesS.f]
  have hh:∀ d i:Nat,i+d=l.length→Evt (fun k=>laws_markValuesS.l0 k ((List.range i).map mk ++ l.drop i) ((1+3 * i:Nat):Int) (i:Int)) (((1+3 * l.length:Nat):Int),(List.range l.length).map mk):=by
   intro d
   induction d with
   | zero =>
    intro i hi
    refine Evt.step ?_
    simp only [laws_markValuesS.l0]
    have e:i=l.length:=by omega
    subst e
    rw [List.drop_of_length_le (Nat.le_refl _),List.append_nil]
    exact Evt.neg (by simp) (Evt.ret _)
   | succ d ih =>
    intro i hi
    have hi':i < l.length:=by omega
    have hx:((List.range i).map mk).length=i:=by simp
    refine Evt.step ?_
    simp only [laws_markValuesS.l0]
    rw [List.drop_eq_getElem_cons hi']
    have s1:∀ u v:S32,((List.range i).map mk ++ u :: l.drop (i+1)).set i v=(List.range i).map mk ++ v :: l.drop (i+1):=by
     intro u v
     rw [List.set_append_right _ _ (by omega),hx,Nat.sub_self,zu]
    have s2:∀ u:S32,rd_T32 ((List.range i).map mk ++ u :: l.drop (i+1)) (i:Int)=u:=by
     intro u
     unfold rd_T32
     rw [Int.toNat_natCast,List.getD_eq_getElem?_getD,List.getElem?_append_right (by omega),hx,Nat.sub_self]
     rfl
    have hw:wrap64 (((1+3 * i:Nat):Int)+1)=((2+3 * i:Nat):Int):=by rw [w64 (by omega) (by omega)];omega
    have hw2:wrap64 (((2+3 * i:Nat):Int)+1)=((3+3 * i:Nat):Int):=by rw [w64 (by omega) (by omega)];omega
    rw [Int.toNat_natCast,hw,hw2]
    refine Evt.pos (by rw [List.length_append,List.length_cons,List.length_drop,hx];omega) (Evt.bind (hT (1+3 * i) (by omega)) (Evt.pos (by omega) (Evt.bindc rfl ?_)))
    rw [s1,s2]
    refine Evt.bind (hT (2+3 * i) (by omega)) (Evt.bindc rfl ?_)
    rw [s1,s2]
    refine Evt.bind (hT (3+3 * i) (by omega)) ?_
    rw [s1,s2,w64s (i:=i) (by omega),show wrap64 (((3+3 * i:Nat):Int)+1)=((1+3 * (i+1):Nat):Int) by rw [w64 (by omega) (by omega)];omega]
    have hn:=ih (i+1) (by omega)
    rw [List.range_succ,List.map_append,List.append_assoc] at hn
    exact hn
  have:=hh l.length 0 (by omega)
  simpa using this
 ·simp only [laws_heldValuesS.f]
  have hh:∀ d i:Nat,i+d=l.length→Evt (fun k=>laws_heldValuesS.l0 k ((List.range l.length).map mk) ((1+3 * i:Nat):Int) (i:Int)) ((1+3 * l.length:Nat):Int):=by
   intro d
   induction d with
   | zero =>
    intro i hi
    refine Evt.step ?_
    simp only [laws_heldValuesS.l0]
    rw [show i=l.length by omega]
    exact Evt.neg (by simp) (Evt.ret _)
   | succ d ih =>
    intro i hi
    have hw:wrap64 (((1+3 * i:Nat):Int)+1)=((2+3 * i:Nat):Int):=by rw [w64 (by omega) (by omega)];omega
    have hw2:wrap64 (((2+3 * i:Nat):Int)+1)=((3+3 * i:Nat):Int):=by rw [w64 (by omega) (by omega)];omega
    refine Evt.step ?_
    simp only [laws_heldValuesS.l0]
    rw [rdm l.length i (by omega),hw,hw2,w64s (i:=i) (by omega),show wrap64 (((3+3 * i:Nat):Int)+1)=((1+3 * (i+1):Nat):Int) by rw [w64 (by omega) (by omega)];omega]
    exact Evt.pos (by simp;omega) (Evt.pos (by omega) (Evt.bind (hT (1+3 * i) (by omega)) (Evt.pos rfl (Evt.bind (hT (2+3 * i) (by omega)) (Evt.pos rfl (Evt.bind (hT (3+3 * i) (by omega)) (Evt.pos rfl (ih (i+1) (by omega)))))))))
  have:=hh l.length 0 (by omega)
  simpa using this
theorem eqVs_ok (l:List S32) (hl:l.length≤1000000000):Evt (fun k=>laws_eqValuesS.f k l l) true:=by
 simp only [laws_eqValuesS.f]
 refine Evt.pos (by simp) ?_
 have hh:∀ d i:Nat,i+d=l.length→Evt (fun k=>laws_eqValuesS.l0 k l l (i:Int)) true:=by
  intro d
  induction d with
  | zero =>
   intro i hi
   refine Evt.step ?_
   simp only [laws_eqValuesS.l0]
   exact Evt.neg (by omega) (Evt.ret _)
  | succ d ih =>
   intro i hi
   refine Evt.step ?_
   simp only [laws_eqValuesS.l0]
   rw [w64s (by omega)]
   exact Evt.pos (by omega) (Evt.pos (by omega) (Evt.pos (by omega) (Evt.bindc (a:=true) (by unfold laws_eqValues.f;simp) (Evt.pos rfl (ih (i+1) (by omega))))))
 exact hh l.length 0 (by omega)
theorem cntR_eq:∀ (d:Nat) (xs:List S65),cntR d xs=cntN d xs
 | 0,_=>rfl
 | d+1,xs=>by simp only [cntR,cntN,cntR_eq d]
theorem htB_eq:∀ (d:Nat) (x:S65),htB d x=htN d x
 | 0,_=>rfl
 | d+1,x=>by
  simp only [htB,htN]
  congr 1
  exact funext (htB_eq d)
theorem sum_bound {α:Type} (f:α→Nat) (B:Nat) (l:List α) (h:∀ x ∈ l,f x≤B):(l.map f).sum≤l.length * B:=by
 induction l with
 | nil=>simp
 | cons x l ih =>
  have h1:=h x (by simp)
  have h2:=ih fun y hy=>h y (by simp [hy])
  rw [List.map_cons,List.sum_cons,List.length_cons,Nat.succ_mul]
  omega
theorem marks_ok (ys:List S67) (hl:ys.length≤1048576) (h:∀ y ∈ ys,CsSm y):∃ K,∀ k,K≤k→(ys.all fun y=>y.f3.f2.all (htB k))=true∧cntC k ys≤4611686018427387000:=by
 have h1:∃ K,∀ k,K≤k→(ys.all fun y=>y.f3.f2.all (htB k))=true:=by
  clear hl
  induction ys with
  | nil=>exact ⟨0,fun _ _=>rfl⟩
  | cons y ys ih =>
   obtain ⟨K1,k1⟩:=ih fun z hz=>h z (by simp [hz])
   obtain ⟨_,_,_,K2,k2⟩:=(h y (by simp)).1.bd
   refine ⟨max K1 K2,fun k hk=>?_⟩
   rw [List.all_cons,k1 k (by omega),Bool.and_true,show htB k=htN k from funext (htB_eq k)]
   exact k2 k (by omega)
 obtain ⟨K,hK⟩:=h1
 refine ⟨K,fun k hk=>⟨hK k hk,?_⟩⟩
 have:=sum_bound (fun y:S67=>6+cntR k y.f3.f2+y.f4.length) 3145734 ys fun y hy=>by
  obtain ⟨g1,g2,_⟩:=h y hy
  obtain ⟨c,hc,b,_⟩:=g1.bd
  have:=b k
  rw [cntR_eq]
  omega
 have e:=Nat.mul_le_mul_right 3145734 hl
 unfold cntC
 omega
end Go.Proofs.YtffjfdoghofkdaaGreat.F
namespace Go.Proofs.YtffjfdoghofkdaaGreat.Pure
open Go Go.RowKit YtffjfdoghofkdaaGreatW.PrintWords YtffjfdoghofkdaaGreat.Pl YtffjfdoghofkdaaGreat.F YtffjfdoghofkdaaGreat.A YtffjfdoghofkdaaGreat.Ext YtffjfdoghofkdaaGreat.BtFnExactModelsUpTo
theorem rxOk_of (n:Nat):∀ x:S101,wf101N n x→RxOk n x:=by
 induction n with
 | zero=>intro x h;exact h.elim
 | succ n ih=>intro x h;exact ⟨h.2.1,h.2.2.1,fun a ha=>ih a (h.2.2.2 a ha)⟩
theorem csOk_of (x:S103) (h:wf103 x):CsOk x:=by
 obtain ⟨_,h1,h2,⟨n,h3⟩,h4,_⟩:=h
 exact ⟨h1,h2,⟨n,rxOk_of n _ h3⟩,h4.1⟩
theorem FnExactModelsUpTo:FnExactModelsUpTo.Pure:=by
 intro l n hl hn
 refine Evt.get (g:=fun k=>laws_FnExactModelsUpTo.f k l n) ?_
 simp only [laws_FnExactModelsUpTo.f]
 obtain ⟨t,ht,hs⟩:=szProblem_ev l hl.1 (fun x hx=>csOk_of x (hl.2 x hx)) 1048576 (by omega) (by omega)
 rcases hs with rfl|⟨h0,h1,ys,hv⟩
 ·exact Evt.bind ht (Evt.pos (by decide) (Evt.ret _))
 have q1:=toProblem_ev hv
 obtain ⟨r,r1,r2,r3⟩:=ModelsUpTo_ev ys hv.1 hv.2.1 n
 obtain ⟨m,l',m1,m2,m3⟩:=markVs_ok r r3
 obtain ⟨K,hK⟩:=marks_ok ys hv.1 hv.2.1
 exact Evt.bind ht (Evt.neg (by omega) (Evt.bind q1 (Evt.bind r2 (Evt.bind r1 (Evt.bind (eqVs_ok r r3) (Evt.bind (eqProblem_ev hv) (Evt.bind m1 (Evt.bind m2 ⟨K,fun k hk=>if_pos ⟨rfl,rfl,m3,rfl,hK k hk⟩⟩))))))))
end Go.Proofs.YtffjfdoghofkdaaGreat.Pure
namespace Go.Proofs.YtffjfdoghofkdaaGreat.fnExactModelsUpTo
open Go.ChangeShapes Go.WideShapes Go.ChangeAt Go.RowKit YtffjfdoghofkdaaGreat.Br YtffjfdoghofkdaaGreatW.PrintWords YtffjfdoghofkdaaGreat.A YtffjfdoghofkdaaGreat.Ext YtffjfdoghofkdaaGreat.BtFnExactModelsUpTo
open Go.ChangeMaps (open_string shut_string)
theorem own:ownKnob Tryz.prog.godebug=none:=by kernel_rfl
theorem laidOut:laidOutB Tryz.prog=true:=by kernel_rfl
set_option maxHeartbeats 2000000 in
theorem lifted (os:Os) (started:os.Started) (H:Type) (enc:TypeId × Value→H) :
  ReturnsInHanded {} Tryz.checked os 6 .any (Rows.fnExactModelsUpToSpec.pre6 enc Tryz.prog Tryz.f6 Rows.fnExactModelsUpToRow.domain false) (Rows.fnExactModelsUpToSpec.post enc Tryz.prog Tryz.f6 false true false false):=by
 refine returnsInHanded_of_change_sized (C:=Tryz.checked) own started (by kernel_rfl) Tryz.func6
  (ChangeSpec.witness6 (enc:=enc) (C:=Tryz.checked) false ⟨#[],#[.agg #[.slice none 0 0],.int .i64 0],[]⟩ 8 (by kernel_rfl) (by kernel_rfl) (by kernel_rfl) (by kernel_rfl)) ?_
 intro W base args ds gs before hval0 hW hcnd hsz0 _
 have hval:∀ (j:Nat) t v,Tryz.f6.params[j]? = some t→args[j]? = some v→Value.okWide Tryz.prog W .any base t v:=hval0
 have hW':=hW
 obtain ⟨p,q,hA0,hV,rfl,hfz,hnd⟩:=hW
 have hA:DataW.TrodAll enc Tryz.prog W 0 (fun _=>true) true Tryz.f6.params.toList args.toList ds p:=hA0
 rw [Tryz.params6] at hA hval
 obtain ⟨v0,vs0,d0,ds0,p0,q0,hargs,rfl,rfl,h0,r0⟩:=trodAll_cons hA
 obtain ⟨v1,vs1,d1,ds1,p1,q1,rfl,rfl,rfl,h1,r1⟩:=trodAll_cons r0
 obtain ⟨rfl,rfl,rfl⟩:=trodAll_nil r1
 obtain rfl:args = #[v0,v1]:=by cases args;simp_all
 obtain ⟨rfl,rfl⟩:=trodVars_none hV
 have k0:=h0
 have lt0:∀ x ∈ p0,x.block < W.heap.size:=by obtain ⟨m,hm⟩:=k0;exact DataW.trod_lt m _ _ _ hm
 obtain ⟨arr0,rfl,_,_⟩:∃ cs,v0 = .agg cs∧cs.size=Tryz.prog.cellsOf 42∧Row.okWide Tryz.prog W .any base 42 cs:=by have z:=(hval 0 42 v0 rfl rfl);unfold Value.okWide at z;rw [Tryz.underlying42] at z;exact z
 obtain ⟨fuel0,hf0⟩:=h0
 obtain ⟨l0_0,hK0,hw0⟩:=(show ∀ n,BrN Tryz.prog n 42 _ _ from fun n=>(br_struct' Tryz.underlying42 (show Tryz.prog.cellsOf 42=1 by kernel_rfl) (fun n=>(bf_one rfl (show Tryz.prog.cellsOf 40=1 by kernel_rfl) (br_slice' Tryz.underlying40 (show Tryz.prog.cellsOf 103=8 by kernel_rfl) (fun n=>(br103 n)) n))) n)) fuel0 H enc W 0 (fun _=>true) true fuel0 _ _ (Nat.le_refl _) hf0
 replace hw0:=hw0
 have w0_0:=hw0
 obtain ⟨cs0,hcs0,hK0⟩:∃ cs,(Value.agg arr0).cells.toList=cs∧_:=⟨_,rfl,hK0⟩
 obtain ⟨A0_0,c0_0,rfl,hc0_0,hr0_0⟩:=hK0
 obtain rfl:arr0 = #[.slice A0_0 l0_0.length c0_0]:=arr_of hcs0
 have k1:=h1
 have lt1:∀ x ∈ p1,x.block < W.heap.size:=by obtain ⟨m,hm⟩:=k1;exact DataW.trod_lt m _ _ _ hm
 obtain ⟨a1,rfl,rfl,rfl,w1⟩:=open_int Tryz.underlying3 (hval 1 3 v1 rfl rfl) h1
 clear hA0 hval0 hsz0
 obtain ⟨k,hp⟩:=Pure.FnExactModelsUpTo l0_0 a1 w0_0 w1
 refine (laws_FnExactModelsUpTo.calls k _ _ l0_0 a1 true W hr0_0 hc0_0 hp rfl).mono fun e W' ⟨he,bel0⟩ => ?_
 subst he
 have bel:Below W.heap.size W W':=bel0
 exact ⟨_,rfl,_,_,_,[],_,[],hW',trodAll_mk1 (shut_bool Tryz.underlying4 _),(trodAll_cons_mk (Below.trod laidOut (by kernel_rfl) (of_decide_eq_true (by kernel_rfl)) k0 bel lt0) (trodAll_cons_mk (Below.trod laidOut (by kernel_rfl) (of_decide_eq_true (by kernel_rfl)) k1 bel lt1) trodAll_mk0)),rfl,bel.frame _,fun h=>by cases h⟩
theorem fact0:(Rows.fnExactModelsUpToRow.inPlace == Tryz.pinned.checked.prog.inPlace 6)=true:=by kernel_rfl
theorem fact1:(Rows.fnExactModelsUpToRow.unfollowed == Tryz.pinned.checked.prog.unfollowed 6)=true:=by kernel_rfl
theorem fact2:(Rows.fnExactModelsUpToRow.recurses == Tryz.pinned.checked.prog.recurses 6)=true:=by kernel_rfl
theorem fact3:(Rows.fnExactModelsUpToRow.named == Tryz.pinned.checked.prog.varsNamed 6)=true:=by kernel_rfl
theorem facts:joinedFacts Tryz.pinned.checked.prog 6 Tryz.f6 Rows.fnExactModelsUpToSpec Rows.fnExactModelsUpToRow=true:=by
 unfold joinedFacts
 rw [fact0,fact1,fact2,fact3]
 kernel_rfl
theorem known:Tryz.pinned.checked.prog.funcNamed Rows.fnExactModelsUpToRow.func=some 6:=by kernel_rfl
theorem inst:Tryz.f6.isInstance Tryz.pinned.checked.prog Rows.fnExactModelsUpToRow.origin Rows.fnExactModelsUpToRow.targs:=of_decide_eq_true (by kernel_rfl)
theorem wrap:Tryz.f6.isWrapper Tryz.pinned.checked.prog Rows.fnExactModelsUpToRow.wrapper Rows.fnExactModelsUpToRow.mainSum:=by unfold Func.isWrapper;first|(rw [if_pos (by decide +kernel)];kernel_rfl)|(rw [if_neg (by decide +kernel)];exact ⟨rfl,rfl⟩)
theorem over:Rows.fnExactModelsUpToRow.holds Tryz.pinned (OpenSpec.ofChange Rows.fnExactModelsUpToSpec) :=
 OpenClaim.holds_of_wide 6 Tryz.f6 rfl rfl rfl rfl rfl rfl rfl ⟨rfl,rfl,rfl,rfl,rfl⟩ rfl rfl rfl rfl rfl known Tryz.func6 facts inst wrap
  (fun os started H enc _=>lifted os started H enc)
theorem proved:Rows.FnExactModelsUpToSaid:=over
#print axioms proved
end Go.Proofs.YtffjfdoghofkdaaGreat.fnExactModelsUpTo
namespace Go.Proofs.YtffjfdoghofkdaaGreat
theorem fnExactModelsUpTo_holds:Rows.FnExactModelsUpToSaid:=fnExactModelsUpTo.proved
end Go.Proofs.YtffjfdoghofkdaaGreat
