/- FnExactWithoutConstraint: what its proof needs, put together by this session's program wip/merge.py out of the texts that wip/xp.py printed and of this session's own. -/
import Derived.Test.YteolnmoomeenbaaQFnExactWithoutConstraint3
set_option linter.unusedVariables false
set_option linter.unusedSimpArgs false
set_option linter.unusedSectionVars false
set_option maxHeartbeats 8000000
set_option maxRecDepth 100000
namespace Go.Proofs.Yteolnmoomeenbaa.A
open Go.RowKit Yteolnmoomeenbaa.Ext YteolnmoomeenbaaW.PrintWords YteolnmoomeenbaaW.PrintLast YteolnmoomeenbaaW.PrintMore
attribute [local go_sem] max2_int min2_int max_two min_two max_three min_three max_four min_four
mutual
def laws_heldRegexS.l0:Nat→List (S43)→Int→Int→Option (Int)
 | 0,_,_,_=>none
 | k+1,x0,x1,x5=>if x5 < (x0.length:Int) then (if 0≤x5 then (if ((rd_T43 x0 x5).f0)=x1 then ((laws_markText.f k (wrap64 (x1+1))).bind fun t35003=>(if ((rd_T43 x0 x5).f1).toList=t35003.toList then ((laws_heldRegexS.f k ((rd_T43 x0 x5).f2) (wrap64 ((wrap64 (x1+1))+1))).bind fun t35005=>(if t35005 < 0 then (some (-1)) else (laws_heldRegexS.l0 k x0 t35005 (wrap64 (x5+1))))) else (some (-1)))) else (some (-1))) else (none)) else (some x1)
def laws_heldRegexS.f:Nat→List (S43)→Int→Option (Int)
 | 0,_,_=>none
 | k+1,l0,a1=>laws_heldRegexS.l0 k l0 a1 0
end
def laws_heldRegexS.T7:Bool × List (List Nat × List Nat):=(true,[([],[]),([],[]),([0,1],[0,1]),([2],[2]),([3],[3]),([],[]),([5],[5]),([4,6],[4,6])])
def laws_heldRegexS.B7:List Nat:=[0,0,3,7,15,0,32,127]
theorem laws_heldRegexS.tab7:rtab .any (opsOf Try.f35 7)=laws_heldRegexS.T7:=by kernel_rfl
theorem laws_heldRegexS.bits7:waitsOk laws_heldRegexS.T7.2 laws_heldRegexS.B7=true:=by kernel_rfl
theorem laws_heldRegexS.calls (k:Nat):∀ (A0:Option Addr) (c0:Nat) (l0:List (S43)) (a1:Int) (r:Int) (w:World) (hr0:Kd.C k43 w A0 l0.length l0) (hc0:l0.length≤c0) (h:laws_heldRegexS.f k l0 a1=some r),
   Calls Try.prog 35 #[.slice A0 l0.length c0,.int .i64 a1] w fun e w'=>e = .returned (.int .i64 r)∧Below w.heap.size w w':=by
 induction k using Nat.strongRecOn with
 | _ k ih =>
 intro A0 c0 l0 a1 r w hr0 hc0 h
 cases k with
 | zero=>exact absurd h (by simp [laws_heldRegexS.f])
 | succ k =>
 simp only [laws_heldRegexS.f] at h
 have HR0:=zk hr0
 have HC0:=zk hc0
 clear hr0 hc0
 have HB:=zk (Below.refl w.heap.size w)
 have H:=h
 clear h
 have H':=zk H
 clear H
 go_enter Try.func35,Try.ntmps35
 go_wp2
 try simp only [Act.put,zt,zv,zu]
 go_loopg [1,5] k (fun kq v1 v5 w'=>∃ (x1_1:Int) (x5_1:Int),v1 = .int .i64 x1_1∧v5 = .int .i64 x5_1∧Aside0 (laws_heldRegexS.l0 kq l0 x1_1 x5_1=some r)∧Aside0 (kq≤k)∧Aside0 (Below w.heap.size w w'))
 case atStart=>exact ⟨(a1),(0),za9,za9,H',⟨Nat.le_refl _⟩,⟨za5⟩⟩
 case round =>
  clear H'
  obtain ⟨x1_1,x5_1,rfl,rfl,HA,HK1,HB⟩:=hrel
  cases gk with
  | zero=>exact absurd HA.out (by simp [laws_heldRegexS.l0])
  | succ k1 =>
   have H:=HA.out
   clear HA
   simp only [laws_heldRegexS.l0] at H
   by_cases c3:x5_1 < (l0.length:Int)
   rw [if_pos c3] at H
   have c3b0:=zdl c3
   clear c3
   by_cases c4:0≤x5_1
   rw [if_pos c4] at H
   have c4b0:=zdle c4
   clear c4
   by_cases c5:((rd_T43 l0 x5_1).f0)=x1_1
   rw [if_pos c5] at H
   have c5b0:=zbt c5
   have c5b1:=zqn c5
   clear c5
   obtain ⟨t3,A6,H⟩:=zO H
   try dsimp only at H
   by_cases c7:((rd_T43 l0 x5_1).f1).toList=t3.toList
   rw [if_pos c7] at H
   have c7b0:=zbt c7
   have c7b1:=zqn c7
   clear c7
   obtain ⟨t5,A8,H⟩:=zO H
   try dsimp only at H
   by_cases c9:t5 < 0
   · rw [if_pos c9] at H
     have c9b0:=zdl c9
     clear c9
     obtain rfl:=zi H
     have p35001:0≤(x5_1:Int):=of_decide_eq_true za7
     have q35001:x5_1 < (l0.length:Int):=of_decide_eq_true za7
     obtain ⟨ad35001,A35001_2,c35001_2,e35001,hx35001_0,hx35001_1,hx35001_2,hl35001_2,hi35001_2⟩:=at_T43 HR0.out x5_1 p35001 q35001
     cases e35001
     have hv35001_2:=hx35001_2
     replace hx35001_0:=zx HB.out hx35001_0
     replace hx35001_1:=zx HB.out hx35001_1
     replace hx35001_2:=zx HB.out hx35001_2
     have HR35001_2:=zk hi35001_2
     have HC35001_2:=zk hl35001_2
     clear hi35001_2 hl35001_2
     replace p35001:=eq_true p35001
     replace q35001:=eq_true q35001
     try go_wp2
     replace HB:=zk (below_drew1 HB.out)
     have p35002:0≤(x5_1:Int):=of_decide_eq_true za7
     have q35002:x5_1 < (l0.length:Int):=of_decide_eq_true za7
     obtain ⟨ad35002,A35002_2,c35002_2,e35002,hx35002_0,hx35002_1,hx35002_2,hl35002_2,hi35002_2⟩:=at_T43 HR0.out x5_1 p35002 q35002
     have hw35002_2:=hx35002_2
     have hw35002_1:=hx35002_1
     have hw35002_0:=hx35002_0
     obtain rfl:ad35001=ad35002:=(by injection e35002)
     (try (have E_:=zi (hx35002_2.symm.trans hv35001_2);injection E_ with e1_ e2_ e3_;(try subst e1_);(try subst e3_)))
     have hv35002_2:=hx35002_2
     replace hx35002_0:=zx HB.out hx35002_0
     replace hx35002_1:=zx HB.out hx35002_1
     replace hx35002_2:=zx HB.out hx35002_2
     have HR35002_2:=zk hi35002_2
     have HC35002_2:=zk hl35002_2
     clear hi35002_2 hl35002_2
     replace p35002:=eq_true p35002
     replace q35002:=eq_true q35002
     refine start_ (n:=8) (S:=fun w'=>w'.cell? (ad35001.add ((x5_1).toNat * 3))=some (.int .i64 ((rd_T43 l0 x5_1).f0))∧w'.cell? ⟨(ad35001.add ((x5_1).toNat * 3)).block,(ad35001.add ((x5_1).toNat * 3)).off+1,none⟩=some (.string ((rd_T43 l0 x5_1).f1))∧w'.cell? ⟨(ad35001.add ((x5_1).toNat * 3)).block,(ad35001.add ((x5_1).toNat * 3)).off+2,none⟩=some (.slice A35002_2 ((rd_T43 l0 x5_1).f2).length c35002_2)) (ds:=[]) #[false,false,false,false,false,false,false,false] (by kernel_rfl) rfl rfl ⟨((HB.out.cell (World.block_lt_of_cell? w _ hw35002_0)).trans hw35002_0),((HB.out.cell (World.block_lt_of_cell? w _ hw35002_1)).trans hw35002_1),((HB.out.cell (World.block_lt_of_cell? w _ hw35002_2)).trans hw35002_2)⟩ (fun hHeld=>?_);refine with_tabW laws_heldRegexS.tab7 laws_heldRegexS.bits7 (fun HT_ HW_=>?_)
     generalize wr.drew=w10 at HB HR35002_2 hx35002_0 hx35002_1 hx35002_2 hHeld ⊢
     refine zy 0 (some 21) HT_.out ?_
     refine zy 1 (some 22) HT_.out ?_
     refine zy 2 (some 23) HT_.out ?_
     refine zy 3 (some 24) HT_.out ?_
     refine zy 5 (some 26) HT_.out ?_
     refine ztk 4 (some 25) HT_.out HW_.out hHeld ?_
     refine zon 6 (some 27) HT_.out (fun K hK=>?_)
     refine goes_ Try.func32 (by kernel_rfl) rfl #[.int .i64 (wrap64 (x1_1+1))] (by rfl) rfl rfl za6 ?_
     with_reducible refine (laws_markText.calls k1 (wrap64 (x1_1+1)) t3 _ A6.out).mono ?_
     rintro e w11 ⟨rfl,hb⟩
     refine ⟨_,rfl,?_⟩
     replace HB:=yB HB hb
     (try clear hb)
     (try clear hb2)
     (try clear hk)
     (try clear hi)
     refine hK.out _ _ ⟨((HB.out.cell (World.block_lt_of_cell? w _ hw35002_0)).trans hw35002_0),((HB.out.cell (World.block_lt_of_cell? w _ hw35002_1)).trans hw35002_1),((HB.out.cell (World.block_lt_of_cell? w _ hw35002_2)).trans hw35002_2)⟩ (fun hHeld=>?_)
     clear hK K
     refine zno (some 27) ?_
     refine zy 7 (some 28) HT_.out ?_
     refine done_ (done_of HT_.out (by kernel_rfl)) ?_
     have p35004:0≤(x5_1:Int):=of_decide_eq_true za7
     have q35004:x5_1 < (l0.length:Int):=of_decide_eq_true za7
     obtain ⟨ad35004,A35004_2,c35004_2,e35004,hx35004_0,hx35004_1,hx35004_2,hl35004_2,hi35004_2⟩:=at_T43 HR0.out x5_1 p35004 q35004
     obtain rfl:ad35001=ad35004:=(by injection e35004)
     (try (have E_:=zi (hx35004_2.symm.trans hv35001_2);injection E_ with e1_ e2_ e3_;(try subst e1_);(try subst e3_)))
     (try (have E_:=zi (hx35004_2.symm.trans hv35002_2);injection E_ with e1_ e2_ e3_;(try subst e1_);(try subst e3_)))
     have hv35004_2:=hx35004_2
     replace hx35004_0:=zx HB.out hx35004_0
     replace hx35004_1:=zx HB.out hx35004_1
     replace hx35004_2:=zx HB.out hx35004_2
     have HR35004_2:=zk hi35004_2
     have HC35004_2:=zk hl35004_2
     clear hi35004_2 hl35004_2
     replace p35004:=eq_true p35004
     replace q35004:=eq_true q35004
     try go_wp2_with (first|((with_reducible refine gate_callee (f:=35) rfl ?_);refine zg (some 37) Try.func35 #[.slice A35004_2 ((rd_T43 l0 x5_1).f2).length c35004_2,.int .i64 (wrap64 ((wrap64 (x1_1+1))+1))] rfl za6 ?_;(with_reducible refine (ih k1 za11 _ _ ((rd_T43 l0 x5_1).f2) (wrap64 ((wrap64 (x1_1+1))+1)) t5 _ ?side1 ?side2 A8.out).mono ?_);(case side1=>repeat (first|exact (Kd.C_below HR35004_2.out HB.out)|(with_reducible refine Kd.C_alloc ?_ _)|(with_reducible refine Kd.C_drewN ?_ _)|(with_reducible refine Kd.C_drew ?_)));(case side2=>exact HC35004_2.out);rintro e w12 ⟨rfl,hb⟩;refine ⟨_,rfl,?_⟩;replace HB:=yB HB hb;(try clear hb)))
     go_ret
     exact ⟨za8,za5⟩
   · rw [if_neg c9] at H
     have c9b0:=zdnl c9
     clear c9
     have H':=zk H
     clear H
     have p35001:0≤(x5_1:Int):=of_decide_eq_true za7
     have q35001:x5_1 < (l0.length:Int):=of_decide_eq_true za7
     obtain ⟨ad35001,A35001_2,c35001_2,e35001,hx35001_0,hx35001_1,hx35001_2,hl35001_2,hi35001_2⟩:=at_T43 HR0.out x5_1 p35001 q35001
     cases e35001
     (try (have E_:=zi (hx35001_2.symm.trans hv35001_2);injection E_ with e1_ e2_ e3_;(try subst e1_);(try subst e3_)))
     (try (have E_:=zi (hx35001_2.symm.trans hv35002_2);injection E_ with e1_ e2_ e3_;(try subst e1_);(try subst e3_)))
     (try (have E_:=zi (hx35001_2.symm.trans hv35004_2);injection E_ with e1_ e2_ e3_;(try subst e1_);(try subst e3_)))
     have hv35001_2:=hx35001_2
     replace hx35001_0:=zx HB.out hx35001_0
     replace hx35001_1:=zx HB.out hx35001_1
     replace hx35001_2:=zx HB.out hx35001_2
     have HR35001_2:=zk hi35001_2
     have HC35001_2:=zk hl35001_2
     clear hi35001_2 hl35001_2
     replace p35001:=eq_true p35001
     replace q35001:=eq_true q35001
     try go_wp2
     replace HB:=zk (below_drew1 HB.out)
     have p35002:0≤(x5_1:Int):=of_decide_eq_true za7
     have q35002:x5_1 < (l0.length:Int):=of_decide_eq_true za7
     obtain ⟨ad35002,A35002_2,c35002_2,e35002,hx35002_0,hx35002_1,hx35002_2,hl35002_2,hi35002_2⟩:=at_T43 HR0.out x5_1 p35002 q35002
     have hw35002_2:=hx35002_2
     have hw35002_1:=hx35002_1
     have hw35002_0:=hx35002_0
     obtain rfl:ad35001=ad35002:=(by injection e35002)
     (try (have E_:=zi (hx35002_2.symm.trans hv35001_2);injection E_ with e1_ e2_ e3_;(try subst e1_);(try subst e3_)))
     (try (have E_:=zi (hx35002_2.symm.trans hv35002_2);injection E_ with e1_ e2_ e3_;(try subst e1_);(try subst e3_)))
     (try (have E_:=zi (hx35002_2.symm.trans hv35004_2);injection E_ with e1_ e2_ e3_;(try subst e1_);(try subst e3_)))
     have hv35002_2:=hx35002_2
     replace hx35002_0:=zx HB.out hx35002_0
     replace hx35002_1:=zx HB.out hx35002_1
     replace hx35002_2:=zx HB.out hx35002_2
     have HR35002_2:=zk hi35002_2
     have HC35002_2:=zk hl35002_2
     clear hi35002_2 hl35002_2
     replace p35002:=eq_true p35002
     replace q35002:=eq_true q35002
     refine start_ (n:=8) (S:=fun w'=>w'.cell? (ad35001.add ((x5_1).toNat * 3))=some (.int .i64 ((rd_T43 l0 x5_1).f0))∧w'.cell? ⟨(ad35001.add ((x5_1).toNat * 3)).block,(ad35001.add ((x5_1).toNat * 3)).off+1,none⟩=some (.string ((rd_T43 l0 x5_1).f1))∧w'.cell? ⟨(ad35001.add ((x5_1).toNat * 3)).block,(ad35001.add ((x5_1).toNat * 3)).off+2,none⟩=some (.slice A35002_2 ((rd_T43 l0 x5_1).f2).length c35002_2)) (ds:=[]) #[false,false,false,false,false,false,false,false] (by kernel_rfl) rfl rfl ⟨((HB.out.cell (World.block_lt_of_cell? w _ hw35002_0)).trans hw35002_0),((HB.out.cell (World.block_lt_of_cell? w _ hw35002_1)).trans hw35002_1),((HB.out.cell (World.block_lt_of_cell? w _ hw35002_2)).trans hw35002_2)⟩ (fun hHeld=>?_);refine with_tabW laws_heldRegexS.tab7 laws_heldRegexS.bits7 (fun HT_ HW_=>?_)
     generalize wr.drew=w13 at HB HR35002_2 hx35002_0 hx35002_1 hx35002_2 hHeld ⊢
     refine zy 0 (some 21) HT_.out ?_
     refine zy 1 (some 22) HT_.out ?_
     refine zy 2 (some 23) HT_.out ?_
     refine zy 3 (some 24) HT_.out ?_
     refine zy 5 (some 26) HT_.out ?_
     refine ztk 4 (some 25) HT_.out HW_.out hHeld ?_
     refine zon 6 (some 27) HT_.out (fun K hK=>?_)
     refine goes_ Try.func32 (by kernel_rfl) rfl #[.int .i64 (wrap64 (x1_1+1))] (by rfl) rfl rfl za6 ?_
     with_reducible refine (laws_markText.calls k1 (wrap64 (x1_1+1)) t3 _ A6.out).mono ?_
     rintro e w14 ⟨rfl,hb⟩
     refine ⟨_,rfl,?_⟩
     replace HB:=yB HB hb
     (try clear hb)
     (try clear hb2)
     (try clear hk)
     (try clear hi)
     refine hK.out _ _ ⟨((HB.out.cell (World.block_lt_of_cell? w _ hw35002_0)).trans hw35002_0),((HB.out.cell (World.block_lt_of_cell? w _ hw35002_1)).trans hw35002_1),((HB.out.cell (World.block_lt_of_cell? w _ hw35002_2)).trans hw35002_2)⟩ (fun hHeld=>?_)
     clear hK K
     refine zno (some 27) ?_
     refine zy 7 (some 28) HT_.out ?_
     refine done_ (done_of HT_.out (by kernel_rfl)) ?_
     have p35004:0≤(x5_1:Int):=of_decide_eq_true za7
     have q35004:x5_1 < (l0.length:Int):=of_decide_eq_true za7
     obtain ⟨ad35004,A35004_2,c35004_2,e35004,hx35004_0,hx35004_1,hx35004_2,hl35004_2,hi35004_2⟩:=at_T43 HR0.out x5_1 p35004 q35004
     obtain rfl:ad35001=ad35004:=(by injection e35004)
     (try (have E_:=zi (hx35004_2.symm.trans hv35001_2);injection E_ with e1_ e2_ e3_;(try subst e1_);(try subst e3_)))
     (try (have E_:=zi (hx35004_2.symm.trans hv35002_2);injection E_ with e1_ e2_ e3_;(try subst e1_);(try subst e3_)))
     (try (have E_:=zi (hx35004_2.symm.trans hv35004_2);injection E_ with e1_ e2_ e3_;(try subst e1_);(try subst e3_)))
     have hv35004_2:=hx35004_2
     replace hx35004_0:=zx HB.out hx35004_0
     replace hx35004_1:=zx HB.out hx35004_1
     replace hx35004_2:=zx HB.out hx35004_2
     have HR35004_2:=zk hi35004_2
     have HC35004_2:=zk hl35004_2
     clear hi35004_2 hl35004_2
     replace p35004:=eq_true p35004
     replace q35004:=eq_true q35004
     try go_wp2_with (first|((with_reducible refine gate_callee (f:=35) rfl ?_);refine zg (some 37) Try.func35 #[.slice A35004_2 ((rd_T43 l0 x5_1).f2).length c35004_2,.int .i64 (wrap64 ((wrap64 (x1_1+1))+1))] rfl za6 ?_;(with_reducible refine (ih k1 za11 _ _ ((rd_T43 l0 x5_1).f2) (wrap64 ((wrap64 (x1_1+1))+1)) t5 _ ?side1 ?side2 A8.out).mono ?_);(case side1=>repeat (first|exact (Kd.C_below HR35004_2.out HB.out)|(with_reducible refine Kd.C_alloc ?_ _)|(with_reducible refine Kd.C_drewN ?_ _)|(with_reducible refine Kd.C_drew ?_)));(case side2=>exact HC35004_2.out);rintro e w15 ⟨rfl,hb⟩;refine ⟨_,rfl,?_⟩;replace HB:=yB HB hb;(try clear hb)))
     go_roundg k1
     case measure=>have:=HK1.out;omega
     case rel=>exact ⟨(t5),(wrap64 (x5_1+1)),za9,za9,H',⟨za11⟩,⟨za5⟩⟩
   · rw [if_neg c7] at H
     have c7b0:=zbn c7
     have c7b1:=zqt c7
     obtain rfl:=zi H
     have p35001:0≤(x5_1:Int):=of_decide_eq_true za7
     have q35001:x5_1 < (l0.length:Int):=of_decide_eq_true za7
     obtain ⟨ad35001,A35001_2,c35001_2,e35001,hx35001_0,hx35001_1,hx35001_2,hl35001_2,hi35001_2⟩:=at_T43 HR0.out x5_1 p35001 q35001
     cases e35001
     (try (have E_:=zi (hx35001_2.symm.trans hv35001_2);injection E_ with e1_ e2_ e3_;(try subst e1_);(try subst e3_)))
     (try (have E_:=zi (hx35001_2.symm.trans hv35002_2);injection E_ with e1_ e2_ e3_;(try subst e1_);(try subst e3_)))
     (try (have E_:=zi (hx35001_2.symm.trans hv35004_2);injection E_ with e1_ e2_ e3_;(try subst e1_);(try subst e3_)))
     have hv35001_2:=hx35001_2
     replace hx35001_0:=zx HB.out hx35001_0
     replace hx35001_1:=zx HB.out hx35001_1
     replace hx35001_2:=zx HB.out hx35001_2
     have HR35001_2:=zk hi35001_2
     have HC35001_2:=zk hl35001_2
     clear hi35001_2 hl35001_2
     replace p35001:=eq_true p35001
     replace q35001:=eq_true q35001
     try go_wp2
     replace HB:=zk (below_drew1 HB.out)
     have p35002:0≤(x5_1:Int):=of_decide_eq_true za7
     have q35002:x5_1 < (l0.length:Int):=of_decide_eq_true za7
     obtain ⟨ad35002,A35002_2,c35002_2,e35002,hx35002_0,hx35002_1,hx35002_2,hl35002_2,hi35002_2⟩:=at_T43 HR0.out x5_1 p35002 q35002
     have hw35002_2:=hx35002_2
     have hw35002_1:=hx35002_1
     have hw35002_0:=hx35002_0
     obtain rfl:ad35001=ad35002:=(by injection e35002)
     (try (have E_:=zi (hx35002_2.symm.trans hv35001_2);injection E_ with e1_ e2_ e3_;(try subst e1_);(try subst e3_)))
     (try (have E_:=zi (hx35002_2.symm.trans hv35002_2);injection E_ with e1_ e2_ e3_;(try subst e1_);(try subst e3_)))
     (try (have E_:=zi (hx35002_2.symm.trans hv35004_2);injection E_ with e1_ e2_ e3_;(try subst e1_);(try subst e3_)))
     have hv35002_2:=hx35002_2
     replace hx35002_0:=zx HB.out hx35002_0
     replace hx35002_1:=zx HB.out hx35002_1
     replace hx35002_2:=zx HB.out hx35002_2
     have HR35002_2:=zk hi35002_2
     have HC35002_2:=zk hl35002_2
     clear hi35002_2 hl35002_2
     replace p35002:=eq_true p35002
     replace q35002:=eq_true q35002
     refine start_ (n:=8) (S:=fun w'=>w'.cell? (ad35001.add ((x5_1).toNat * 3))=some (.int .i64 ((rd_T43 l0 x5_1).f0))∧w'.cell? ⟨(ad35001.add ((x5_1).toNat * 3)).block,(ad35001.add ((x5_1).toNat * 3)).off+1,none⟩=some (.string ((rd_T43 l0 x5_1).f1))∧w'.cell? ⟨(ad35001.add ((x5_1).toNat * 3)).block,(ad35001.add ((x5_1).toNat * 3)).off+2,none⟩=some (.slice A35002_2 ((rd_T43 l0 x5_1).f2).length c35002_2)) (ds:=[]) #[false,false,false,false,false,false,false,false] (by kernel_rfl) rfl rfl ⟨((HB.out.cell (World.block_lt_of_cell? w _ hw35002_0)).trans hw35002_0),((HB.out.cell (World.block_lt_of_cell? w _ hw35002_1)).trans hw35002_1),((HB.out.cell (World.block_lt_of_cell? w _ hw35002_2)).trans hw35002_2)⟩ (fun hHeld=>?_);refine with_tabW laws_heldRegexS.tab7 laws_heldRegexS.bits7 (fun HT_ HW_=>?_)
     generalize wr.drew=w16 at HB HR35002_2 hx35002_0 hx35002_1 hx35002_2 hHeld ⊢
     refine zy 0 (some 21) HT_.out ?_
     refine zy 1 (some 22) HT_.out ?_
     refine zy 2 (some 23) HT_.out ?_
     refine zy 3 (some 24) HT_.out ?_
     refine zy 5 (some 26) HT_.out ?_
     refine ztk 4 (some 25) HT_.out HW_.out hHeld ?_
     refine zon 6 (some 27) HT_.out (fun K hK=>?_)
     refine goes_ Try.func32 (by kernel_rfl) rfl #[.int .i64 (wrap64 (x1_1+1))] (by rfl) rfl rfl za6 ?_
     with_reducible refine (laws_markText.calls k1 (wrap64 (x1_1+1)) t3 _ A6.out).mono ?_
     rintro e w17 ⟨rfl,hb⟩
     refine ⟨_,rfl,?_⟩
     replace HB:=yB HB hb
     (try clear hb)
     (try clear hb2)
     (try clear hk)
     (try clear hi)
     refine hK.out _ _ ⟨((HB.out.cell (World.block_lt_of_cell? w _ hw35002_0)).trans hw35002_0),((HB.out.cell (World.block_lt_of_cell? w _ hw35002_1)).trans hw35002_1),((HB.out.cell (World.block_lt_of_cell? w _ hw35002_2)).trans hw35002_2)⟩ (fun hHeld=>?_)
     clear hK K
     refine zno (some 27) ?_
     refine zy 7 (some 28) HT_.out ?_
     refine done_ (done_of HT_.out (by kernel_rfl)) ?_
     try go_wp2
     go_ret
     exact ⟨za8,za5⟩
   rw [if_neg c5] at H
   have c5b0:=zbn c5
   have c5b1:=zqt c5
   obtain rfl:=zi H
   have p35001:0≤(x5_1:Int):=of_decide_eq_true za7
   have q35001:x5_1 < (l0.length:Int):=of_decide_eq_true za7
   obtain ⟨ad35001,A35001_2,c35001_2,e35001,hx35001_0,hx35001_1,hx35001_2,hl35001_2,hi35001_2⟩:=at_T43 HR0.out x5_1 p35001 q35001
   cases e35001
   (try (have E_:=zi (hx35001_2.symm.trans hv35001_2);injection E_ with e1_ e2_ e3_;(try subst e1_);(try subst e3_)))
   (try (have E_:=zi (hx35001_2.symm.trans hv35002_2);injection E_ with e1_ e2_ e3_;(try subst e1_);(try subst e3_)))
   (try (have E_:=zi (hx35001_2.symm.trans hv35004_2);injection E_ with e1_ e2_ e3_;(try subst e1_);(try subst e3_)))
   have hv35001_2:=hx35001_2
   replace hx35001_0:=zx HB.out hx35001_0
   replace hx35001_1:=zx HB.out hx35001_1
   replace hx35001_2:=zx HB.out hx35001_2
   have HR35001_2:=zk hi35001_2
   have HC35001_2:=zk hl35001_2
   clear hi35001_2 hl35001_2
   replace p35001:=eq_true p35001
   replace q35001:=eq_true q35001
   rotate_left
   · rw [if_neg c4] at H
     exact absurd H (by simp)
   rw [if_neg c3] at H
   have c3b0:=zdnl c3
   clear c3
   obtain rfl:=zi H
   rotate_left
   all_goals
    go_wp2
    go_ret
    exact ⟨za8,za5⟩
def laws_heldConstraintS.l0:Nat→List (S46)→Int→Int→Option (Int)
 | 0,_,_,_=>none
 | k+1,x0,x1,x5=>if x5 < (x0.length:Int) then (if 0≤x5 then (if ((rd_T46 x0 x5).f0)=x1 then ((laws_markText.f k (wrap64 (x1+1))).bind fun t22003=>(if ((rd_T46 x0 x5).f1).toList=t22003.toList then ((laws_markText.f k (wrap64 ((wrap64 (x1+1))+1))).bind fun t22005=>(if ((rd_T46 x0 x5).f2).toList=t22005.toList then (if ((rd_T46 x0 x5).f3.f0)=(wrap64 ((wrap64 ((wrap64 (x1+1))+1))+1)) then ((laws_markText.f k (wrap64 ((wrap64 ((wrap64 ((wrap64 (x1+1))+1))+1))+1))).bind fun t22008=>(if ((rd_T46 x0 x5).f3.f1).toList=t22008.toList then ((laws_heldRegexS.f k ((rd_T46 x0 x5).f3.f2) (wrap64 ((wrap64 ((wrap64 ((wrap64 ((wrap64 (x1+1))+1))+1))+1))+1))).bind fun t22010=>(if t22010 < 0 then (some (-1)) else ((laws_heldIntS.f k ((rd_T46 x0 x5).f4) t22010).bind fun t22012=>(if t22012 < 0 then (some (-1)) else (if ((rd_T46 x0 x5).f5)=t22012 then (laws_heldConstraintS.l0 k x0 (wrap64 (t22012+1)) (wrap64 (x5+1))) else (some (-1))))))) else (some (-1)))) else (some (-1))) else (some (-1)))) else (some (-1)))) else (some (-1))) else (none)) else (some x1)
def laws_heldConstraintS.f (k:Nat) (l0:List (S46)) (a1:Int):Option (Int):=laws_heldConstraintS.l0 k l0 a1 0
def laws_heldConstraintS.T7:Bool × List (List Nat × List Nat):=(true,[([],[]),([],[]),([0,1],[0,1]),([2],[2]),([3],[3]),([],[]),([5],[5]),([4,6],[4,6])])
def laws_heldConstraintS.B7:List Nat:=[0,0,3,7,15,0,32,127]
theorem laws_heldConstraintS.tab7:rtab .any (opsOf Try.f22 7)=laws_heldConstraintS.T7:=by kernel_rfl
theorem laws_heldConstraintS.bits7:waitsOk laws_heldConstraintS.T7.2 laws_heldConstraintS.B7=true:=by kernel_rfl
def laws_heldConstraintS.T10:Bool × List (List Nat × List Nat):=(true,[([],[]),([],[]),([0,1],[0,1]),([2],[2]),([3],[3]),([],[]),([5],[5]),([4,6],[4,6])])
def laws_heldConstraintS.B10:List Nat:=[0,0,3,7,15,0,32,127]
theorem laws_heldConstraintS.tab10:rtab .any (opsOf Try.f22 10)=laws_heldConstraintS.T10:=by kernel_rfl
theorem laws_heldConstraintS.bits10:waitsOk laws_heldConstraintS.T10.2 laws_heldConstraintS.B10=true:=by kernel_rfl
def laws_heldConstraintS.T16:Bool × List (List Nat × List Nat):=(true,[([],[]),([],[]),([0,1],[0,1]),([2],[2]),([3],[3]),([4],[4]),([],[]),([6],[6]),([5,7],[5,7])])
def laws_heldConstraintS.B16:List Nat:=[0,0,3,7,15,31,0,64,255]
theorem laws_heldConstraintS.tab16:rtab .any (opsOf Try.f22 16)=laws_heldConstraintS.T16:=by kernel_rfl
theorem laws_heldConstraintS.bits16:waitsOk laws_heldConstraintS.T16.2 laws_heldConstraintS.B16=true:=by kernel_rfl
theorem laws_heldConstraintS.calls (k:Nat) (A0:Option Addr) (c0:Nat) (l0:List (S46)) (a1:Int) (r:Int) (w:World) (hr0:Kd.C k46 w A0 l0.length l0) (hc0:l0.length≤c0) (h:laws_heldConstraintS.f k l0 a1=some r) :
   Calls Try.prog 22 #[.slice A0 l0.length c0,.int .i64 a1] w fun e w'=>e = .returned (.int .i64 r)∧Below w.heap.size w w':=by
 have HR0:=zk hr0
 have HC0:=zk hc0
 clear hr0 hc0
 have HB:=zk (Below.refl w.heap.size w)
 have H:=h
 unfold laws_heldConstraintS.f at H
 clear h
 have H':=zk H
 clear H
 go_enter Try.func22,Try.ntmps22
 go_wp2
 try simp only [Act.put,zt,zv,zu]
 go_loopg [1,5] k (fun kq v1 v5 w'=>∃ (x1_1:Int) (x5_1:Int),v1 = .int .i64 x1_1∧v5 = .int .i64 x5_1∧Aside0 (laws_heldConstraintS.l0 kq l0 x1_1 x5_1=some r)∧Aside0 (kq≤k)∧Aside0 (Below w.heap.size w w'))
 case atStart=>exact ⟨(a1),(0),za9,za9,H',⟨Nat.le_refl _⟩,⟨za5⟩⟩
 case round =>
  clear H'
  obtain ⟨x1_1,x5_1,rfl,rfl,HA,HK1,HB⟩:=hrel
  cases gk with
  | zero=>exact absurd HA.out (by simp [laws_heldConstraintS.l0])
  | succ k1 =>
   have H:=HA.out
   clear HA
   simp only [laws_heldConstraintS.l0] at H
   by_cases c3:x5_1 < (l0.length:Int)
   rw [if_pos c3] at H
   have c3b0:=zdl c3
   clear c3
   by_cases c4:0≤x5_1
   rw [if_pos c4] at H
   have c4b0:=zdle c4
   clear c4
   by_cases c5:((rd_T46 l0 x5_1).f0)=x1_1
   rw [if_pos c5] at H
   have c5b0:=zbt c5
   have c5b1:=zqn c5
   clear c5
   obtain ⟨t3,A6,H⟩:=zO H
   try dsimp only at H
   by_cases c7:((rd_T46 l0 x5_1).f1).toList=t3.toList
   rw [if_pos c7] at H
   have c7b0:=zbt c7
   have c7b1:=zqn c7
   clear c7
   obtain ⟨t5,A8,H⟩:=zO H
   try dsimp only at H
   by_cases c9:((rd_T46 l0 x5_1).f2).toList=t5.toList
   rw [if_pos c9] at H
   have c9b0:=zbt c9
   have c9b1:=zqn c9
   clear c9
   by_cases c10:((rd_T46 l0 x5_1).f3.f0)=(wrap64 ((wrap64 ((wrap64 (x1_1+1))+1))+1))
   rw [if_pos c10] at H
   have c10b0:=zbt c10
   have c10b1:=zqn c10
   clear c10
   obtain ⟨t8,A11,H⟩:=zO H
   try dsimp only at H
   by_cases c12:((rd_T46 l0 x5_1).f3.f1).toList=t8.toList
   rw [if_pos c12] at H
   have c12b0:=zbt c12
   have c12b1:=zqn c12
   clear c12
   obtain ⟨t10,A13,H⟩:=zO H
   try dsimp only at H
   by_cases c14:t10 < 0
   · rw [if_pos c14] at H
     have c14b0:=zdl c14
     clear c14
     obtain rfl:=zi H
     have p22001:0≤(x5_1:Int):=of_decide_eq_true za7
     have q22001:x5_1 < (l0.length:Int):=of_decide_eq_true za7
     obtain ⟨ad22001,A22001_5,c22001_5,A22001_6,c22001_6,e22001,hx22001_0,hx22001_1,hx22001_2,hx22001_3,hx22001_4,hx22001_5,hx22001_6,hx22001_7,hl22001_5,hi22001_5,hl22001_6,hi22001_6⟩:=at_T46 HR0.out x5_1 p22001 q22001
     cases e22001
     have hv22001_5:=hx22001_5
     have hv22001_6:=hx22001_6
     replace hx22001_0:=zx HB.out hx22001_0
     replace hx22001_1:=zx HB.out hx22001_1
     replace hx22001_2:=zx HB.out hx22001_2
     replace hx22001_3:=zx HB.out hx22001_3
     replace hx22001_4:=zx HB.out hx22001_4
     replace hx22001_5:=zx HB.out hx22001_5
     replace hx22001_6:=zx HB.out hx22001_6
     replace hx22001_7:=zx HB.out hx22001_7
     have HR22001_5:=zk hi22001_5
     have HC22001_5:=zk hl22001_5
     clear hi22001_5 hl22001_5
     have HR22001_6:=zk hi22001_6
     have HC22001_6:=zk hl22001_6
     clear hi22001_6 hl22001_6
     replace p22001:=eq_true p22001
     replace q22001:=eq_true q22001
     try go_wp2
     replace HB:=zk (below_drew1 HB.out)
     have p22002:0≤(x5_1:Int):=of_decide_eq_true za7
     have q22002:x5_1 < (l0.length:Int):=of_decide_eq_true za7
     obtain ⟨ad22002,A22002_5,c22002_5,A22002_6,c22002_6,e22002,hx22002_0,hx22002_1,hx22002_2,hx22002_3,hx22002_4,hx22002_5,hx22002_6,hx22002_7,hl22002_5,hi22002_5,hl22002_6,hi22002_6⟩:=at_T46 HR0.out x5_1 p22002 q22002
     have hw22002_7:=hx22002_7
     have hw22002_6:=hx22002_6
     have hw22002_5:=hx22002_5
     have hw22002_4:=hx22002_4
     have hw22002_3:=hx22002_3
     have hw22002_2:=hx22002_2
     have hw22002_1:=hx22002_1
     have hw22002_0:=hx22002_0
     obtain rfl:ad22001=ad22002:=(by injection e22002)
     (try (have E_:=zi (hx22002_5.symm.trans hv22001_5);injection E_ with e1_ e2_ e3_;(try subst e1_);(try subst e3_)))
     have hv22002_5:=hx22002_5
     (try (have E_:=zi (hx22002_6.symm.trans hv22001_6);injection E_ with e1_ e2_ e3_;(try subst e1_);(try subst e3_)))
     have hv22002_6:=hx22002_6
     replace hx22002_0:=zx HB.out hx22002_0
     replace hx22002_1:=zx HB.out hx22002_1
     replace hx22002_2:=zx HB.out hx22002_2
     replace hx22002_3:=zx HB.out hx22002_3
     replace hx22002_4:=zx HB.out hx22002_4
     replace hx22002_5:=zx HB.out hx22002_5
     replace hx22002_6:=zx HB.out hx22002_6
     replace hx22002_7:=zx HB.out hx22002_7
     have HR22002_5:=zk hi22002_5
     have HC22002_5:=zk hl22002_5
     clear hi22002_5 hl22002_5
     have HR22002_6:=zk hi22002_6
     have HC22002_6:=zk hl22002_6
     clear hi22002_6 hl22002_6
     replace p22002:=eq_true p22002
     replace q22002:=eq_true q22002
     refine start_ (n:=8) (S:=fun w'=>w'.cell? (ad22001.add ((x5_1).toNat * 8))=some (.int .i64 ((rd_T46 l0 x5_1).f0))∧w'.cell? ⟨(ad22001.add ((x5_1).toNat * 8)).block,(ad22001.add ((x5_1).toNat * 8)).off+1,none⟩=some (.string ((rd_T46 l0 x5_1).f1))∧w'.cell? ⟨(ad22001.add ((x5_1).toNat * 8)).block,(ad22001.add ((x5_1).toNat * 8)).off+2,none⟩=some (.string ((rd_T46 l0 x5_1).f2))∧w'.cell? ⟨(ad22001.add ((x5_1).toNat * 8)).block,(ad22001.add ((x5_1).toNat * 8)).off+3,none⟩=some (.int .i64 ((rd_T46 l0 x5_1).f3.f0))∧w'.cell? ⟨(ad22001.add ((x5_1).toNat * 8)).block,(ad22001.add ((x5_1).toNat * 8)).off+4,none⟩=some (.string ((rd_T46 l0 x5_1).f3.f1))∧w'.cell? ⟨(ad22001.add ((x5_1).toNat * 8)).block,(ad22001.add ((x5_1).toNat * 8)).off+5,none⟩=some (.slice A22002_5 ((rd_T46 l0 x5_1).f3.f2).length c22002_5)∧w'.cell? ⟨(ad22001.add ((x5_1).toNat * 8)).block,(ad22001.add ((x5_1).toNat * 8)).off+6,none⟩=some (.slice A22002_6 ((rd_T46 l0 x5_1).f4).length c22002_6)∧w'.cell? ⟨(ad22001.add ((x5_1).toNat * 8)).block,(ad22001.add ((x5_1).toNat * 8)).off+7,none⟩=some (.int .i64 ((rd_T46 l0 x5_1).f5))) (ds:=[]) #[false,false,false,false,false,false,false,false] (by kernel_rfl) rfl rfl ⟨((HB.out.cell (World.block_lt_of_cell? w _ hw22002_0)).trans hw22002_0),((HB.out.cell (World.block_lt_of_cell? w _ hw22002_1)).trans hw22002_1),((HB.out.cell (World.block_lt_of_cell? w _ hw22002_2)).trans hw22002_2),((HB.out.cell (World.block_lt_of_cell? w _ hw22002_3)).trans hw22002_3),((HB.out.cell (World.block_lt_of_cell? w _ hw22002_4)).trans hw22002_4),((HB.out.cell (World.block_lt_of_cell? w _ hw22002_5)).trans hw22002_5),((HB.out.cell (World.block_lt_of_cell? w _ hw22002_6)).trans hw22002_6),((HB.out.cell (World.block_lt_of_cell? w _ hw22002_7)).trans hw22002_7)⟩ (fun hHeld=>?_);refine with_tabW laws_heldConstraintS.tab7 laws_heldConstraintS.bits7 (fun HT_ HW_=>?_)
     generalize wr.drew=w15 at HB HR22002_5 HR22002_6 hx22002_0 hx22002_1 hx22002_2 hx22002_3 hx22002_4 hx22002_5 hx22002_6 hx22002_7 hHeld ⊢
     refine zy 0 (some 21) HT_.out ?_
     refine zy 1 (some 22) HT_.out ?_
     refine zy 2 (some 23) HT_.out ?_
     refine zy 3 (some 24) HT_.out ?_
     refine zy 5 (some 26) HT_.out ?_
     refine ztk 4 (some 25) HT_.out HW_.out hHeld ?_
     refine zon 6 (some 27) HT_.out (fun K hK=>?_)
     refine goes_ Try.func32 (by kernel_rfl) rfl #[.int .i64 (wrap64 (x1_1+1))] (by rfl) rfl rfl za6 ?_
     with_reducible refine (laws_markText.calls k1 (wrap64 (x1_1+1)) t3 _ A6.out).mono ?_
     rintro e w16 ⟨rfl,hb⟩
     refine ⟨_,rfl,?_⟩
     replace HB:=yB HB hb
     (try clear hb)
     (try clear hb2)
     (try clear hk)
     (try clear hi)
     refine hK.out _ _ ⟨((HB.out.cell (World.block_lt_of_cell? w _ hw22002_0)).trans hw22002_0),((HB.out.cell (World.block_lt_of_cell? w _ hw22002_1)).trans hw22002_1),((HB.out.cell (World.block_lt_of_cell? w _ hw22002_2)).trans hw22002_2),((HB.out.cell (World.block_lt_of_cell? w _ hw22002_3)).trans hw22002_3),((HB.out.cell (World.block_lt_of_cell? w _ hw22002_4)).trans hw22002_4),((HB.out.cell (World.block_lt_of_cell? w _ hw22002_5)).trans hw22002_5),((HB.out.cell (World.block_lt_of_cell? w _ hw22002_6)).trans hw22002_6),((HB.out.cell (World.block_lt_of_cell? w _ hw22002_7)).trans hw22002_7)⟩ (fun hHeld=>?_)
     clear hK K
     refine zno (some 27) ?_
     refine zy 7 (some 28) HT_.out ?_
     refine done_ (done_of HT_.out (by kernel_rfl)) ?_
     try go_wp2
     replace HB:=zk (below_drew1 HB.out)
     have p22004:0≤(x5_1:Int):=of_decide_eq_true za7
     have q22004:x5_1 < (l0.length:Int):=of_decide_eq_true za7
     obtain ⟨ad22004,A22004_5,c22004_5,A22004_6,c22004_6,e22004,hx22004_0,hx22004_1,hx22004_2,hx22004_3,hx22004_4,hx22004_5,hx22004_6,hx22004_7,hl22004_5,hi22004_5,hl22004_6,hi22004_6⟩:=at_T46 HR0.out x5_1 p22004 q22004
     have hw22004_7:=hx22004_7
     have hw22004_6:=hx22004_6
     have hw22004_5:=hx22004_5
     have hw22004_4:=hx22004_4
     have hw22004_3:=hx22004_3
     have hw22004_2:=hx22004_2
     have hw22004_1:=hx22004_1
     have hw22004_0:=hx22004_0
     obtain rfl:ad22001=ad22004:=(by injection e22004)
     (try (have E_:=zi (hx22004_5.symm.trans hv22001_5);injection E_ with e1_ e2_ e3_;(try subst e1_);(try subst e3_)))
     (try (have E_:=zi (hx22004_5.symm.trans hv22002_5);injection E_ with e1_ e2_ e3_;(try subst e1_);(try subst e3_)))
     have hv22004_5:=hx22004_5
     (try (have E_:=zi (hx22004_6.symm.trans hv22001_6);injection E_ with e1_ e2_ e3_;(try subst e1_);(try subst e3_)))
     (try (have E_:=zi (hx22004_6.symm.trans hv22002_6);injection E_ with e1_ e2_ e3_;(try subst e1_);(try subst e3_)))
     have hv22004_6:=hx22004_6
     replace hx22004_0:=zx HB.out hx22004_0
     replace hx22004_1:=zx HB.out hx22004_1
     replace hx22004_2:=zx HB.out hx22004_2
     replace hx22004_3:=zx HB.out hx22004_3
     replace hx22004_4:=zx HB.out hx22004_4
     replace hx22004_5:=zx HB.out hx22004_5
     replace hx22004_6:=zx HB.out hx22004_6
     replace hx22004_7:=zx HB.out hx22004_7
     have HR22004_5:=zk hi22004_5
     have HC22004_5:=zk hl22004_5
     clear hi22004_5 hl22004_5
     have HR22004_6:=zk hi22004_6
     have HC22004_6:=zk hl22004_6
     clear hi22004_6 hl22004_6
     replace p22004:=eq_true p22004
     replace q22004:=eq_true q22004
     refine start_ (n:=8) (S:=fun w'=>w'.cell? (ad22001.add ((x5_1).toNat * 8))=some (.int .i64 ((rd_T46 l0 x5_1).f0))∧w'.cell? ⟨(ad22001.add ((x5_1).toNat * 8)).block,(ad22001.add ((x5_1).toNat * 8)).off+1,none⟩=some (.string ((rd_T46 l0 x5_1).f1))∧w'.cell? ⟨(ad22001.add ((x5_1).toNat * 8)).block,(ad22001.add ((x5_1).toNat * 8)).off+2,none⟩=some (.string ((rd_T46 l0 x5_1).f2))∧w'.cell? ⟨(ad22001.add ((x5_1).toNat * 8)).block,(ad22001.add ((x5_1).toNat * 8)).off+3,none⟩=some (.int .i64 ((rd_T46 l0 x5_1).f3.f0))∧w'.cell? ⟨(ad22001.add ((x5_1).toNat * 8)).block,(ad22001.add ((x5_1).toNat * 8)).off+4,none⟩=some (.string ((rd_T46 l0 x5_1).f3.f1))∧w'.cell? ⟨(ad22001.add ((x5_1).toNat * 8)).block,(ad22001.add ((x5_1).toNat * 8)).off+5,none⟩=some (.slice A22004_5 ((rd_T46 l0 x5_1).f3.f2).length c22004_5)∧w'.cell? ⟨(ad22001.add ((x5_1).toNat * 8)).block,(ad22001.add ((x5_1).toNat * 8)).off+6,none⟩=some (.slice A22004_6 ((rd_T46 l0 x5_1).f4).length c22004_6)∧w'.cell? ⟨(ad22001.add ((x5_1).toNat * 8)).block,(ad22001.add ((x5_1).toNat * 8)).off+7,none⟩=some (.int .i64 ((rd_T46 l0 x5_1).f5))) (ds:=[]) #[false,false,false,false,false,false,false,false] (by kernel_rfl) rfl rfl ⟨((HB.out.cell (World.block_lt_of_cell? w _ hw22004_0)).trans hw22004_0),((HB.out.cell (World.block_lt_of_cell? w _ hw22004_1)).trans hw22004_1),((HB.out.cell (World.block_lt_of_cell? w _ hw22004_2)).trans hw22004_2),((HB.out.cell (World.block_lt_of_cell? w _ hw22004_3)).trans hw22004_3),((HB.out.cell (World.block_lt_of_cell? w _ hw22004_4)).trans hw22004_4),((HB.out.cell (World.block_lt_of_cell? w _ hw22004_5)).trans hw22004_5),((HB.out.cell (World.block_lt_of_cell? w _ hw22004_6)).trans hw22004_6),((HB.out.cell (World.block_lt_of_cell? w _ hw22004_7)).trans hw22004_7)⟩ (fun hHeld=>?_);refine with_tabW laws_heldConstraintS.tab10 laws_heldConstraintS.bits10 (fun HT_ HW_=>?_)
     generalize w16.drew=w17 at HB HR22004_5 HR22004_6 hx22004_0 hx22004_1 hx22004_2 hx22004_3 hx22004_4 hx22004_5 hx22004_6 hx22004_7 hHeld ⊢
     refine zy 0 (some 31) HT_.out ?_
     refine zy 1 (some 32) HT_.out ?_
     refine zy 2 (some 33) HT_.out ?_
     refine zy 3 (some 34) HT_.out ?_
     refine zy 5 (some 36) HT_.out ?_
     refine ztk 4 (some 35) HT_.out HW_.out hHeld ?_
     refine zon 6 (some 37) HT_.out (fun K hK=>?_)
     refine goes_ Try.func32 (by kernel_rfl) rfl #[.int .i64 (wrap64 ((wrap64 (x1_1+1))+1))] (by rfl) rfl rfl za6 ?_
     with_reducible refine (laws_markText.calls k1 (wrap64 ((wrap64 (x1_1+1))+1)) t5 _ A8.out).mono ?_
     rintro e w18 ⟨rfl,hb⟩
     refine ⟨_,rfl,?_⟩
     replace HB:=yB HB hb
     (try clear hb)
     (try clear hb2)
     (try clear hk)
     (try clear hi)
     refine hK.out _ _ ⟨((HB.out.cell (World.block_lt_of_cell? w _ hw22004_0)).trans hw22004_0),((HB.out.cell (World.block_lt_of_cell? w _ hw22004_1)).trans hw22004_1),((HB.out.cell (World.block_lt_of_cell? w _ hw22004_2)).trans hw22004_2),((HB.out.cell (World.block_lt_of_cell? w _ hw22004_3)).trans hw22004_3),((HB.out.cell (World.block_lt_of_cell? w _ hw22004_4)).trans hw22004_4),((HB.out.cell (World.block_lt_of_cell? w _ hw22004_5)).trans hw22004_5),((HB.out.cell (World.block_lt_of_cell? w _ hw22004_6)).trans hw22004_6),((HB.out.cell (World.block_lt_of_cell? w _ hw22004_7)).trans hw22004_7)⟩ (fun hHeld=>?_)
     clear hK K
     refine zno (some 37) ?_
     refine zy 7 (some 38) HT_.out ?_
     refine done_ (done_of HT_.out (by kernel_rfl)) ?_
     have p22006:0≤(x5_1:Int):=of_decide_eq_true za7
     have q22006:x5_1 < (l0.length:Int):=of_decide_eq_true za7
     obtain ⟨ad22006,A22006_5,c22006_5,A22006_6,c22006_6,e22006,hx22006_0,hx22006_1,hx22006_2,hx22006_3,hx22006_4,hx22006_5,hx22006_6,hx22006_7,hl22006_5,hi22006_5,hl22006_6,hi22006_6⟩:=at_T46 HR0.out x5_1 p22006 q22006
     obtain rfl:ad22001=ad22006:=(by injection e22006)
     (try (have E_:=zi (hx22006_5.symm.trans hv22001_5);injection E_ with e1_ e2_ e3_;(try subst e1_);(try subst e3_)))
     (try (have E_:=zi (hx22006_5.symm.trans hv22002_5);injection E_ with e1_ e2_ e3_;(try subst e1_);(try subst e3_)))
     (try (have E_:=zi (hx22006_5.symm.trans hv22004_5);injection E_ with e1_ e2_ e3_;(try subst e1_);(try subst e3_)))
     have hv22006_5:=hx22006_5
     (try (have E_:=zi (hx22006_6.symm.trans hv22001_6);injection E_ with e1_ e2_ e3_;(try subst e1_);(try subst e3_)))
     (try (have E_:=zi (hx22006_6.symm.trans hv22002_6);injection E_ with e1_ e2_ e3_;(try subst e1_);(try subst e3_)))
     (try (have E_:=zi (hx22006_6.symm.trans hv22004_6);injection E_ with e1_ e2_ e3_;(try subst e1_);(try subst e3_)))
     have hv22006_6:=hx22006_6
     replace hx22006_0:=zx HB.out hx22006_0
     replace hx22006_1:=zx HB.out hx22006_1
     replace hx22006_2:=zx HB.out hx22006_2
     replace hx22006_3:=zx HB.out hx22006_3
     replace hx22006_4:=zx HB.out hx22006_4
     replace hx22006_5:=zx HB.out hx22006_5
     replace hx22006_6:=zx HB.out hx22006_6
     replace hx22006_7:=zx HB.out hx22006_7
     have HR22006_5:=zk hi22006_5
     have HC22006_5:=zk hl22006_5
     clear hi22006_5 hl22006_5
     have HR22006_6:=zk hi22006_6
     have HC22006_6:=zk hl22006_6
     clear hi22006_6 hl22006_6
     replace p22006:=eq_true p22006
     replace q22006:=eq_true q22006
     try go_wp2
     replace HB:=zk (below_drew1 HB.out)
     have p22007:0≤(x5_1:Int):=of_decide_eq_true za7
     have q22007:x5_1 < (l0.length:Int):=of_decide_eq_true za7
     obtain ⟨ad22007,A22007_5,c22007_5,A22007_6,c22007_6,e22007,hx22007_0,hx22007_1,hx22007_2,hx22007_3,hx22007_4,hx22007_5,hx22007_6,hx22007_7,hl22007_5,hi22007_5,hl22007_6,hi22007_6⟩:=at_T46 HR0.out x5_1 p22007 q22007
     have hw22007_7:=hx22007_7
     have hw22007_6:=hx22007_6
     have hw22007_5:=hx22007_5
     have hw22007_4:=hx22007_4
     have hw22007_3:=hx22007_3
     have hw22007_2:=hx22007_2
     have hw22007_1:=hx22007_1
     have hw22007_0:=hx22007_0
     obtain rfl:ad22001=ad22007:=(by injection e22007)
     (try (have E_:=zi (hx22007_5.symm.trans hv22001_5);injection E_ with e1_ e2_ e3_;(try subst e1_);(try subst e3_)))
     (try (have E_:=zi (hx22007_5.symm.trans hv22002_5);injection E_ with e1_ e2_ e3_;(try subst e1_);(try subst e3_)))
     (try (have E_:=zi (hx22007_5.symm.trans hv22004_5);injection E_ with e1_ e2_ e3_;(try subst e1_);(try subst e3_)))
     (try (have E_:=zi (hx22007_5.symm.trans hv22006_5);injection E_ with e1_ e2_ e3_;(try subst e1_);(try subst e3_)))
     have hv22007_5:=hx22007_5
     (try (have E_:=zi (hx22007_6.symm.trans hv22001_6);injection E_ with e1_ e2_ e3_;(try subst e1_);(try subst e3_)))
     (try (have E_:=zi (hx22007_6.symm.trans hv22002_6);injection E_ with e1_ e2_ e3_;(try subst e1_);(try subst e3_)))
     (try (have E_:=zi (hx22007_6.symm.trans hv22004_6);injection E_ with e1_ e2_ e3_;(try subst e1_);(try subst e3_)))
     (try (have E_:=zi (hx22007_6.symm.trans hv22006_6);injection E_ with e1_ e2_ e3_;(try subst e1_);(try subst e3_)))
     have hv22007_6:=hx22007_6
     replace hx22007_0:=zx HB.out hx22007_0
     replace hx22007_1:=zx HB.out hx22007_1
     replace hx22007_2:=zx HB.out hx22007_2
     replace hx22007_3:=zx HB.out hx22007_3
     replace hx22007_4:=zx HB.out hx22007_4
     replace hx22007_5:=zx HB.out hx22007_5
     replace hx22007_6:=zx HB.out hx22007_6
     replace hx22007_7:=zx HB.out hx22007_7
     have HR22007_5:=zk hi22007_5
     have HC22007_5:=zk hl22007_5
     clear hi22007_5 hl22007_5
     have HR22007_6:=zk hi22007_6
     have HC22007_6:=zk hl22007_6
     clear hi22007_6 hl22007_6
     replace p22007:=eq_true p22007
     replace q22007:=eq_true q22007
     refine start_ (n:=9) (S:=fun w'=>w'.cell? (ad22001.add ((x5_1).toNat * 8))=some (.int .i64 ((rd_T46 l0 x5_1).f0))∧w'.cell? ⟨(ad22001.add ((x5_1).toNat * 8)).block,(ad22001.add ((x5_1).toNat * 8)).off+1,none⟩=some (.string ((rd_T46 l0 x5_1).f1))∧w'.cell? ⟨(ad22001.add ((x5_1).toNat * 8)).block,(ad22001.add ((x5_1).toNat * 8)).off+2,none⟩=some (.string ((rd_T46 l0 x5_1).f2))∧w'.cell? ⟨(ad22001.add ((x5_1).toNat * 8)).block,(ad22001.add ((x5_1).toNat * 8)).off+3,none⟩=some (.int .i64 ((rd_T46 l0 x5_1).f3.f0))∧w'.cell? ⟨(ad22001.add ((x5_1).toNat * 8)).block,(ad22001.add ((x5_1).toNat * 8)).off+4,none⟩=some (.string ((rd_T46 l0 x5_1).f3.f1))∧w'.cell? ⟨(ad22001.add ((x5_1).toNat * 8)).block,(ad22001.add ((x5_1).toNat * 8)).off+5,none⟩=some (.slice A22007_5 ((rd_T46 l0 x5_1).f3.f2).length c22007_5)∧w'.cell? ⟨(ad22001.add ((x5_1).toNat * 8)).block,(ad22001.add ((x5_1).toNat * 8)).off+6,none⟩=some (.slice A22007_6 ((rd_T46 l0 x5_1).f4).length c22007_6)∧w'.cell? ⟨(ad22001.add ((x5_1).toNat * 8)).block,(ad22001.add ((x5_1).toNat * 8)).off+7,none⟩=some (.int .i64 ((rd_T46 l0 x5_1).f5))) (ds:=[]) #[false,false,false,false,false,false,false,false,false] (by kernel_rfl) rfl rfl ⟨((HB.out.cell (World.block_lt_of_cell? w _ hw22007_0)).trans hw22007_0),((HB.out.cell (World.block_lt_of_cell? w _ hw22007_1)).trans hw22007_1),((HB.out.cell (World.block_lt_of_cell? w _ hw22007_2)).trans hw22007_2),((HB.out.cell (World.block_lt_of_cell? w _ hw22007_3)).trans hw22007_3),((HB.out.cell (World.block_lt_of_cell? w _ hw22007_4)).trans hw22007_4),((HB.out.cell (World.block_lt_of_cell? w _ hw22007_5)).trans hw22007_5),((HB.out.cell (World.block_lt_of_cell? w _ hw22007_6)).trans hw22007_6),((HB.out.cell (World.block_lt_of_cell? w _ hw22007_7)).trans hw22007_7)⟩ (fun hHeld=>?_);refine with_tabW laws_heldConstraintS.tab16 laws_heldConstraintS.bits16 (fun HT_ HW_=>?_)
     generalize w18.drew=w19 at HB HR22007_5 HR22007_6 hx22007_0 hx22007_1 hx22007_2 hx22007_3 hx22007_4 hx22007_5 hx22007_6 hx22007_7 hHeld ⊢
     refine zy 0 (some 51) HT_.out ?_
     refine zy 1 (some 52) HT_.out ?_
     refine zy 2 (some 53) HT_.out ?_
     refine zy 3 (some 54) HT_.out ?_
     refine zy 4 (some 55) HT_.out ?_
     refine zy 6 (some 57) HT_.out ?_
     refine ztk 5 (some 56) HT_.out HW_.out hHeld ?_
     refine zon 7 (some 58) HT_.out (fun K hK=>?_)
     refine goes_ Try.func32 (by kernel_rfl) rfl #[.int .i64 (wrap64 ((wrap64 ((wrap64 ((wrap64 (x1_1+1))+1))+1))+1))] (by rfl) rfl rfl za6 ?_
     with_reducible refine (laws_markText.calls k1 (wrap64 ((wrap64 ((wrap64 ((wrap64 (x1_1+1))+1))+1))+1)) t8 _ A11.out).mono ?_
     rintro e w20 ⟨rfl,hb⟩
     refine ⟨_,rfl,?_⟩
     replace HB:=yB HB hb
     (try clear hb)
     (try clear hb2)
     (try clear hk)
     (try clear hi)
     refine hK.out _ _ ⟨((HB.out.cell (World.block_lt_of_cell? w _ hw22007_0)).trans hw22007_0),((HB.out.cell (World.block_lt_of_cell? w _ hw22007_1)).trans hw22007_1),((HB.out.cell (World.block_lt_of_cell? w _ hw22007_2)).trans hw22007_2),((HB.out.cell (World.block_lt_of_cell? w _ hw22007_3)).trans hw22007_3),((HB.out.cell (World.block_lt_of_cell? w _ hw22007_4)).trans hw22007_4),((HB.out.cell (World.block_lt_of_cell? w _ hw22007_5)).trans hw22007_5),((HB.out.cell (World.block_lt_of_cell? w _ hw22007_6)).trans hw22007_6),((HB.out.cell (World.block_lt_of_cell? w _ hw22007_7)).trans hw22007_7)⟩ (fun hHeld=>?_)
     clear hK K
     refine zno (some 58) ?_
     refine zy 8 (some 59) HT_.out ?_
     refine done_ (done_of HT_.out (by kernel_rfl)) ?_
     have p22009:0≤(x5_1:Int):=of_decide_eq_true za7
     have q22009:x5_1 < (l0.length:Int):=of_decide_eq_true za7
     obtain ⟨ad22009,A22009_5,c22009_5,A22009_6,c22009_6,e22009,hx22009_0,hx22009_1,hx22009_2,hx22009_3,hx22009_4,hx22009_5,hx22009_6,hx22009_7,hl22009_5,hi22009_5,hl22009_6,hi22009_6⟩:=at_T46 HR0.out x5_1 p22009 q22009
     obtain rfl:ad22001=ad22009:=(by injection e22009)
     (try (have E_:=zi (hx22009_5.symm.trans hv22001_5);injection E_ with e1_ e2_ e3_;(try subst e1_);(try subst e3_)))
     (try (have E_:=zi (hx22009_5.symm.trans hv22002_5);injection E_ with e1_ e2_ e3_;(try subst e1_);(try subst e3_)))
     (try (have E_:=zi (hx22009_5.symm.trans hv22004_5);injection E_ with e1_ e2_ e3_;(try subst e1_);(try subst e3_)))
     (try (have E_:=zi (hx22009_5.symm.trans hv22006_5);injection E_ with e1_ e2_ e3_;(try subst e1_);(try subst e3_)))
     (try (have E_:=zi (hx22009_5.symm.trans hv22007_5);injection E_ with e1_ e2_ e3_;(try subst e1_);(try subst e3_)))
     have hv22009_5:=hx22009_5
     (try (have E_:=zi (hx22009_6.symm.trans hv22001_6);injection E_ with e1_ e2_ e3_;(try subst e1_);(try subst e3_)))
     (try (have E_:=zi (hx22009_6.symm.trans hv22002_6);injection E_ with e1_ e2_ e3_;(try subst e1_);(try subst e3_)))
     (try (have E_:=zi (hx22009_6.symm.trans hv22004_6);injection E_ with e1_ e2_ e3_;(try subst e1_);(try subst e3_)))
     (try (have E_:=zi (hx22009_6.symm.trans hv22006_6);injection E_ with e1_ e2_ e3_;(try subst e1_);(try subst e3_)))
     (try (have E_:=zi (hx22009_6.symm.trans hv22007_6);injection E_ with e1_ e2_ e3_;(try subst e1_);(try subst e3_)))
     have hv22009_6:=hx22009_6
     replace hx22009_0:=zx HB.out hx22009_0
     replace hx22009_1:=zx HB.out hx22009_1
     replace hx22009_2:=zx HB.out hx22009_2
     replace hx22009_3:=zx HB.out hx22009_3
     replace hx22009_4:=zx HB.out hx22009_4
     replace hx22009_5:=zx HB.out hx22009_5
     replace hx22009_6:=zx HB.out hx22009_6
     replace hx22009_7:=zx HB.out hx22009_7
     have HR22009_5:=zk hi22009_5
     have HC22009_5:=zk hl22009_5
     clear hi22009_5 hl22009_5
     have HR22009_6:=zk hi22009_6
     have HC22009_6:=zk hl22009_6
     clear hi22009_6 hl22009_6
     replace p22009:=eq_true p22009
     replace q22009:=eq_true q22009
     try go_wp2_with (first|((with_reducible refine gate_callee (f:=35) rfl ?_);refine zg (some 69) Try.func35 #[.slice A22009_5 ((rd_T46 l0 x5_1).f3.f2).length c22009_5,.int .i64 (wrap64 ((wrap64 ((wrap64 ((wrap64 ((wrap64 (x1_1+1))+1))+1))+1))+1))] rfl za6 ?_;(with_reducible refine (laws_heldRegexS.calls k1 _ _ ((rd_T46 l0 x5_1).f3.f2) (wrap64 ((wrap64 ((wrap64 ((wrap64 ((wrap64 (x1_1+1))+1))+1))+1))+1)) t10 _ ?side1 ?side2 A13.out).mono ?_);(case side1=>repeat (first|exact (Kd.C_below HR22009_5.out HB.out)|(with_reducible refine Kd.C_alloc ?_ _)|(with_reducible refine Kd.C_drewN ?_ _)|(with_reducible refine Kd.C_drew ?_)));(case side2=>exact HC22009_5.out);rintro e w21 ⟨rfl,hb⟩;refine ⟨_,rfl,?_⟩;replace HB:=yB HB hb;(try clear hb)))
     go_ret
     exact ⟨za8,za5⟩
   rw [if_neg c14] at H
   have c14b0:=zdnl c14
   clear c14
   obtain ⟨t12,A22,H⟩:=zO H
   try dsimp only at H
   by_cases c23:t12 < 0
   · rw [if_pos c23] at H
     have c23b0:=zdl c23
     clear c23
     obtain rfl:=zi H
     have p22001:0≤(x5_1:Int):=of_decide_eq_true za7
     have q22001:x5_1 < (l0.length:Int):=of_decide_eq_true za7
     obtain ⟨ad22001,A22001_5,c22001_5,A22001_6,c22001_6,e22001,hx22001_0,hx22001_1,hx22001_2,hx22001_3,hx22001_4,hx22001_5,hx22001_6,hx22001_7,hl22001_5,hi22001_5,hl22001_6,hi22001_6⟩:=at_T46 HR0.out x5_1 p22001 q22001
     cases e22001
     (try (have E_:=zi (hx22001_5.symm.trans hv22001_5);injection E_ with e1_ e2_ e3_;(try subst e1_);(try subst e3_)))
     (try (have E_:=zi (hx22001_5.symm.trans hv22002_5);injection E_ with e1_ e2_ e3_;(try subst e1_);(try subst e3_)))
     (try (have E_:=zi (hx22001_5.symm.trans hv22004_5);injection E_ with e1_ e2_ e3_;(try subst e1_);(try subst e3_)))
     (try (have E_:=zi (hx22001_5.symm.trans hv22006_5);injection E_ with e1_ e2_ e3_;(try subst e1_);(try subst e3_)))
     (try (have E_:=zi (hx22001_5.symm.trans hv22007_5);injection E_ with e1_ e2_ e3_;(try subst e1_);(try subst e3_)))
     (try (have E_:=zi (hx22001_5.symm.trans hv22009_5);injection E_ with e1_ e2_ e3_;(try subst e1_);(try subst e3_)))
     have hv22001_5:=hx22001_5
     (try (have E_:=zi (hx22001_6.symm.trans hv22001_6);injection E_ with e1_ e2_ e3_;(try subst e1_);(try subst e3_)))
     (try (have E_:=zi (hx22001_6.symm.trans hv22002_6);injection E_ with e1_ e2_ e3_;(try subst e1_);(try subst e3_)))
     (try (have E_:=zi (hx22001_6.symm.trans hv22004_6);injection E_ with e1_ e2_ e3_;(try subst e1_);(try subst e3_)))
     (try (have E_:=zi (hx22001_6.symm.trans hv22006_6);injection E_ with e1_ e2_ e3_;(try subst e1_);(try subst e3_)))
     (try (have E_:=zi (hx22001_6.symm.trans hv22007_6);injection E_ with e1_ e2_ e3_;(try subst e1_);(try subst e3_)))
     (try (have E_:=zi (hx22001_6.symm.trans hv22009_6);injection E_ with e1_ e2_ e3_;(try subst e1_);(try subst e3_)))
     have hv22001_6:=hx22001_6
     replace hx22001_0:=zx HB.out hx22001_0
     replace hx22001_1:=zx HB.out hx22001_1
     replace hx22001_2:=zx HB.out hx22001_2
     replace hx22001_3:=zx HB.out hx22001_3
     replace hx22001_4:=zx HB.out hx22001_4
     replace hx22001_5:=zx HB.out hx22001_5
     replace hx22001_6:=zx HB.out hx22001_6
     replace hx22001_7:=zx HB.out hx22001_7
     have HR22001_5:=zk hi22001_5
     have HC22001_5:=zk hl22001_5
     clear hi22001_5 hl22001_5
     have HR22001_6:=zk hi22001_6
     have HC22001_6:=zk hl22001_6
     clear hi22001_6 hl22001_6
     replace p22001:=eq_true p22001
     replace q22001:=eq_true q22001
     try go_wp2
     replace HB:=zk (below_drew1 HB.out)
     have p22002:0≤(x5_1:Int):=of_decide_eq_true za7
     have q22002:x5_1 < (l0.length:Int):=of_decide_eq_true za7
     obtain ⟨ad22002,A22002_5,c22002_5,A22002_6,c22002_6,e22002,hx22002_0,hx22002_1,hx22002_2,hx22002_3,hx22002_4,hx22002_5,hx22002_6,hx22002_7,hl22002_5,hi22002_5,hl22002_6,hi22002_6⟩:=at_T46 HR0.out x5_1 p22002 q22002
     have hw22002_7:=hx22002_7
     have hw22002_6:=hx22002_6
     have hw22002_5:=hx22002_5
     have hw22002_4:=hx22002_4
     have hw22002_3:=hx22002_3
     have hw22002_2:=hx22002_2
     have hw22002_1:=hx22002_1
     have hw22002_0:=hx22002_0
     obtain rfl:ad22001=ad22002:=(by injection e22002)
     (try (have E_:=zi (hx22002_5.symm.trans hv22001_5);injection E_ with e1_ e2_ e3_;(try subst e1_);(try subst e3_)))
     (try (have E_:=zi (hx22002_5.symm.trans hv22002_5);injection E_ with e1_ e2_ e3_;(try subst e1_);(try subst e3_)))
     (try (have E_:=zi (hx22002_5.symm.trans hv22004_5);injection E_ with e1_ e2_ e3_;(try subst e1_);(try subst e3_)))
     (try (have E_:=zi (hx22002_5.symm.trans hv22006_5);injection E_ with e1_ e2_ e3_;(try subst e1_);(try subst e3_)))
     (try (have E_:=zi (hx22002_5.symm.trans hv22007_5);injection E_ with e1_ e2_ e3_;(try subst e1_);(try subst e3_)))
     (try (have E_:=zi (hx22002_5.symm.trans hv22009_5);injection E_ with e1_ e2_ e3_;(try subst e1_);(try subst e3_)))
     have hv22002_5:=hx22002_5
     (try (have E_:=zi (hx22002_6.symm.trans hv22001_6);injection E_ with e1_ e2_ e3_;(try subst e1_);(try subst e3_)))
     (try (have E_:=zi (hx22002_6.symm.trans hv22002_6);injection E_ with e1_ e2_ e3_;(try subst e1_);(try subst e3_)))
     (try (have E_:=zi (hx22002_6.symm.trans hv22004_6);injection E_ with e1_ e2_ e3_;(try subst e1_);(try subst e3_)))
     (try (have E_:=zi (hx22002_6.symm.trans hv22006_6);injection E_ with e1_ e2_ e3_;(try subst e1_);(try subst e3_)))
     (try (have E_:=zi (hx22002_6.symm.trans hv22007_6);injection E_ with e1_ e2_ e3_;(try subst e1_);(try subst e3_)))
     (try (have E_:=zi (hx22002_6.symm.trans hv22009_6);injection E_ with e1_ e2_ e3_;(try subst e1_);(try subst e3_)))
     have hv22002_6:=hx22002_6
     replace hx22002_0:=zx HB.out hx22002_0
     replace hx22002_1:=zx HB.out hx22002_1
     replace hx22002_2:=zx HB.out hx22002_2
     replace hx22002_3:=zx HB.out hx22002_3
     replace hx22002_4:=zx HB.out hx22002_4
     replace hx22002_5:=zx HB.out hx22002_5
     replace hx22002_6:=zx HB.out hx22002_6
     replace hx22002_7:=zx HB.out hx22002_7
     have HR22002_5:=zk hi22002_5
     have HC22002_5:=zk hl22002_5
     clear hi22002_5 hl22002_5
     have HR22002_6:=zk hi22002_6
     have HC22002_6:=zk hl22002_6
     clear hi22002_6 hl22002_6
     replace p22002:=eq_true p22002
     replace q22002:=eq_true q22002
     refine start_ (n:=8) (S:=fun w'=>w'.cell? (ad22001.add ((x5_1).toNat * 8))=some (.int .i64 ((rd_T46 l0 x5_1).f0))∧w'.cell? ⟨(ad22001.add ((x5_1).toNat * 8)).block,(ad22001.add ((x5_1).toNat * 8)).off+1,none⟩=some (.string ((rd_T46 l0 x5_1).f1))∧w'.cell? ⟨(ad22001.add ((x5_1).toNat * 8)).block,(ad22001.add ((x5_1).toNat * 8)).off+2,none⟩=some (.string ((rd_T46 l0 x5_1).f2))∧w'.cell? ⟨(ad22001.add ((x5_1).toNat * 8)).block,(ad22001.add ((x5_1).toNat * 8)).off+3,none⟩=some (.int .i64 ((rd_T46 l0 x5_1).f3.f0))∧w'.cell? ⟨(ad22001.add ((x5_1).toNat * 8)).block,(ad22001.add ((x5_1).toNat * 8)).off+4,none⟩=some (.string ((rd_T46 l0 x5_1).f3.f1))∧w'.cell? ⟨(ad22001.add ((x5_1).toNat * 8)).block,(ad22001.add ((x5_1).toNat * 8)).off+5,none⟩=some (.slice A22002_5 ((rd_T46 l0 x5_1).f3.f2).length c22002_5)∧w'.cell? ⟨(ad22001.add ((x5_1).toNat * 8)).block,(ad22001.add ((x5_1).toNat * 8)).off+6,none⟩=some (.slice A22002_6 ((rd_T46 l0 x5_1).f4).length c22002_6)∧w'.cell? ⟨(ad22001.add ((x5_1).toNat * 8)).block,(ad22001.add ((x5_1).toNat * 8)).off+7,none⟩=some (.int .i64 ((rd_T46 l0 x5_1).f5))) (ds:=[]) #[false,false,false,false,false,false,false,false] (by kernel_rfl) rfl rfl ⟨((HB.out.cell (World.block_lt_of_cell? w _ hw22002_0)).trans hw22002_0),((HB.out.cell (World.block_lt_of_cell? w _ hw22002_1)).trans hw22002_1),((HB.out.cell (World.block_lt_of_cell? w _ hw22002_2)).trans hw22002_2),((HB.out.cell (World.block_lt_of_cell? w _ hw22002_3)).trans hw22002_3),((HB.out.cell (World.block_lt_of_cell? w _ hw22002_4)).trans hw22002_4),((HB.out.cell (World.block_lt_of_cell? w _ hw22002_5)).trans hw22002_5),((HB.out.cell (World.block_lt_of_cell? w _ hw22002_6)).trans hw22002_6),((HB.out.cell (World.block_lt_of_cell? w _ hw22002_7)).trans hw22002_7)⟩ (fun hHeld=>?_);refine with_tabW laws_heldConstraintS.tab7 laws_heldConstraintS.bits7 (fun HT_ HW_=>?_)
     generalize wr.drew=w24 at HB HR22002_5 HR22002_6 hx22002_0 hx22002_1 hx22002_2 hx22002_3 hx22002_4 hx22002_5 hx22002_6 hx22002_7 hHeld ⊢
     refine zy 0 (some 21) HT_.out ?_
     refine zy 1 (some 22) HT_.out ?_
     refine zy 2 (some 23) HT_.out ?_
     refine zy 3 (some 24) HT_.out ?_
     refine zy 5 (some 26) HT_.out ?_
     refine ztk 4 (some 25) HT_.out HW_.out hHeld ?_
     refine zon 6 (some 27) HT_.out (fun K hK=>?_)
     refine goes_ Try.func32 (by kernel_rfl) rfl #[.int .i64 (wrap64 (x1_1+1))] (by rfl) rfl rfl za6 ?_
     with_reducible refine (laws_markText.calls k1 (wrap64 (x1_1+1)) t3 _ A6.out).mono ?_
     rintro e w25 ⟨rfl,hb⟩
     refine ⟨_,rfl,?_⟩
     replace HB:=yB HB hb
     (try clear hb)
     (try clear hb2)
     (try clear hk)
     (try clear hi)
     refine hK.out _ _ ⟨((HB.out.cell (World.block_lt_of_cell? w _ hw22002_0)).trans hw22002_0),((HB.out.cell (World.block_lt_of_cell? w _ hw22002_1)).trans hw22002_1),((HB.out.cell (World.block_lt_of_cell? w _ hw22002_2)).trans hw22002_2),((HB.out.cell (World.block_lt_of_cell? w _ hw22002_3)).trans hw22002_3),((HB.out.cell (World.block_lt_of_cell? w _ hw22002_4)).trans hw22002_4),((HB.out.cell (World.block_lt_of_cell? w _ hw22002_5)).trans hw22002_5),((HB.out.cell (World.block_lt_of_cell? w _ hw22002_6)).trans hw22002_6),((HB.out.cell (World.block_lt_of_cell? w _ hw22002_7)).trans hw22002_7)⟩ (fun hHeld=>?_)
     clear hK K
     refine zno (some 27) ?_
     refine zy 7 (some 28) HT_.out ?_
     refine done_ (done_of HT_.out (by kernel_rfl)) ?_
     try go_wp2
     replace HB:=zk (below_drew1 HB.out)
     have p22004:0≤(x5_1:Int):=of_decide_eq_true za7
     have q22004:x5_1 < (l0.length:Int):=of_decide_eq_true za7
     obtain ⟨ad22004,A22004_5,c22004_5,A22004_6,c22004_6,e22004,hx22004_0,hx22004_1,hx22004_2,hx22004_3,hx22004_4,hx22004_5,hx22004_6,hx22004_7,hl22004_5,hi22004_5,hl22004_6,hi22004_6⟩:=at_T46 HR0.out x5_1 p22004 q22004
     have hw22004_7:=hx22004_7
     have hw22004_6:=hx22004_6
     have hw22004_5:=hx22004_5
     have hw22004_4:=hx22004_4
     have hw22004_3:=hx22004_3
     have hw22004_2:=hx22004_2
     have hw22004_1:=hx22004_1
     have hw22004_0:=hx22004_0
     obtain rfl:ad22001=ad22004:=(by injection e22004)
     (try (have E_:=zi (hx22004_5.symm.trans hv22001_5);injection E_ with e1_ e2_ e3_;(try subst e1_);(try subst e3_)))
     (try (have E_:=zi (hx22004_5.symm.trans hv22002_5);injection E_ with e1_ e2_ e3_;(try subst e1_);(try subst e3_)))
     (try (have E_:=zi (hx22004_5.symm.trans hv22004_5);injection E_ with e1_ e2_ e3_;(try subst e1_);(try subst e3_)))
     (try (have E_:=zi (hx22004_5.symm.trans hv22006_5);injection E_ with e1_ e2_ e3_;(try subst e1_);(try subst e3_)))
     (try (have E_:=zi (hx22004_5.symm.trans hv22007_5);injection E_ with e1_ e2_ e3_;(try subst e1_);(try subst e3_)))
     (try (have E_:=zi (hx22004_5.symm.trans hv22009_5);injection E_ with e1_ e2_ e3_;(try subst e1_);(try subst e3_)))
     have hv22004_5:=hx22004_5
     (try (have E_:=zi (hx22004_6.symm.trans hv22001_6);injection E_ with e1_ e2_ e3_;(try subst e1_);(try subst e3_)))
     (try (have E_:=zi (hx22004_6.symm.trans hv22002_6);injection E_ with e1_ e2_ e3_;(try subst e1_);(try subst e3_)))
     (try (have E_:=zi (hx22004_6.symm.trans hv22004_6);injection E_ with e1_ e2_ e3_;(try subst e1_);(try subst e3_)))
     (try (have E_:=zi (hx22004_6.symm.trans hv22006_6);injection E_ with e1_ e2_ e3_;(try subst e1_);(try subst e3_)))
     (try (have E_:=zi (hx22004_6.symm.trans hv22007_6);injection E_ with e1_ e2_ e3_;(try subst e1_);(try subst e3_)))
     (try (have E_:=zi (hx22004_6.symm.trans hv22009_6);injection E_ with e1_ e2_ e3_;(try subst e1_);(try subst e3_)))
     have hv22004_6:=hx22004_6
     replace hx22004_0:=zx HB.out hx22004_0
     replace hx22004_1:=zx HB.out hx22004_1
     replace hx22004_2:=zx HB.out hx22004_2
     replace hx22004_3:=zx HB.out hx22004_3
     replace hx22004_4:=zx HB.out hx22004_4
     replace hx22004_5:=zx HB.out hx22004_5
     replace hx22004_6:=zx HB.out hx22004_6
     replace hx22004_7:=zx HB.out hx22004_7
     have HR22004_5:=zk hi22004_5
     have HC22004_5:=zk hl22004_5
     clear hi22004_5 hl22004_5
     have HR22004_6:=zk hi22004_6
     have HC22004_6:=zk hl22004_6
     clear hi22004_6 hl22004_6
     replace p22004:=eq_true p22004
     replace q22004:=eq_true q22004
     refine start_ (n:=8) (S:=fun w'=>w'.cell? (ad22001.add ((x5_1).toNat * 8))=some (.int .i64 ((rd_T46 l0 x5_1).f0))∧w'.cell? ⟨(ad22001.add ((x5_1).toNat * 8)).block,(ad22001.add ((x5_1).toNat * 8)).off+1,none⟩=some (.string ((rd_T46 l0 x5_1).f1))∧w'.cell? ⟨(ad22001.add ((x5_1).toNat * 8)).block,(ad22001.add ((x5_1).toNat * 8)).off+2,none⟩=some (.string ((rd_T46 l0 x5_1).f2))∧w'.cell? ⟨(ad22001.add ((x5_1).toNat * 8)).block,(ad22001.add ((x5_1).toNat * 8)).off+3,none⟩=some (.int .i64 ((rd_T46 l0 x5_1).f3.f0))∧w'.cell? ⟨(ad22001.add ((x5_1).toNat * 8)).block,(ad22001.add ((x5_1).toNat * 8)).off+4,none⟩=some (.string ((rd_T46 l0 x5_1).f3.f1))∧w'.cell? ⟨(ad22001.add ((x5_1).toNat * 8)).block,(ad22001.add ((x5_1).toNat * 8)).off+5,none⟩=some (.slice A22004_5 ((rd_T46 l0 x5_1).f3.f2).length c22004_5)∧w'.cell? ⟨(ad22001.add ((x5_1).toNat * 8)).block,(ad22001.add ((x5_1).toNat * 8)).off+6,none⟩=some (.slice A22004_6 ((rd_T46 l0 x5_1).f4).length c22004_6)∧w'.cell? ⟨(ad22001.add ((x5_1).toNat * 8)).block,(ad22001.add ((x5_1).toNat * 8)).off+7,none⟩=some (.int .i64 ((rd_T46 l0 x5_1).f5))) (ds:=[]) #[false,false,false,false,false,false,false,false] (by kernel_rfl) rfl rfl ⟨((HB.out.cell (World.block_lt_of_cell? w _ hw22004_0)).trans hw22004_0),((HB.out.cell (World.block_lt_of_cell? w _ hw22004_1)).trans hw22004_1),((HB.out.cell (World.block_lt_of_cell? w _ hw22004_2)).trans hw22004_2),((HB.out.cell (World.block_lt_of_cell? w _ hw22004_3)).trans hw22004_3),((HB.out.cell (World.block_lt_of_cell? w _ hw22004_4)).trans hw22004_4),((HB.out.cell (World.block_lt_of_cell? w _ hw22004_5)).trans hw22004_5),((HB.out.cell (World.block_lt_of_cell? w _ hw22004_6)).trans hw22004_6),((HB.out.cell (World.block_lt_of_cell? w _ hw22004_7)).trans hw22004_7)⟩ (fun hHeld=>?_);refine with_tabW laws_heldConstraintS.tab10 laws_heldConstraintS.bits10 (fun HT_ HW_=>?_)
     generalize w25.drew=w26 at HB HR22004_5 HR22004_6 hx22004_0 hx22004_1 hx22004_2 hx22004_3 hx22004_4 hx22004_5 hx22004_6 hx22004_7 hHeld ⊢
     refine zy 0 (some 31) HT_.out ?_
     refine zy 1 (some 32) HT_.out ?_
     refine zy 2 (some 33) HT_.out ?_
     refine zy 3 (some 34) HT_.out ?_
     refine zy 5 (some 36) HT_.out ?_
     refine ztk 4 (some 35) HT_.out HW_.out hHeld ?_
     refine zon 6 (some 37) HT_.out (fun K hK=>?_)
     refine goes_ Try.func32 (by kernel_rfl) rfl #[.int .i64 (wrap64 ((wrap64 (x1_1+1))+1))] (by rfl) rfl rfl za6 ?_
     with_reducible refine (laws_markText.calls k1 (wrap64 ((wrap64 (x1_1+1))+1)) t5 _ A8.out).mono ?_
     rintro e w27 ⟨rfl,hb⟩
     refine ⟨_,rfl,?_⟩
     replace HB:=yB HB hb
     (try clear hb)
     (try clear hb2)
     (try clear hk)
     (try clear hi)
     refine hK.out _ _ ⟨((HB.out.cell (World.block_lt_of_cell? w _ hw22004_0)).trans hw22004_0),((HB.out.cell (World.block_lt_of_cell? w _ hw22004_1)).trans hw22004_1),((HB.out.cell (World.block_lt_of_cell? w _ hw22004_2)).trans hw22004_2),((HB.out.cell (World.block_lt_of_cell? w _ hw22004_3)).trans hw22004_3),((HB.out.cell (World.block_lt_of_cell? w _ hw22004_4)).trans hw22004_4),((HB.out.cell (World.block_lt_of_cell? w _ hw22004_5)).trans hw22004_5),((HB.out.cell (World.block_lt_of_cell? w _ hw22004_6)).trans hw22004_6),((HB.out.cell (World.block_lt_of_cell? w _ hw22004_7)).trans hw22004_7)⟩ (fun hHeld=>?_)
     clear hK K
     refine zno (some 37) ?_
     refine zy 7 (some 38) HT_.out ?_
     refine done_ (done_of HT_.out (by kernel_rfl)) ?_
     have p22006:0≤(x5_1:Int):=of_decide_eq_true za7
     have q22006:x5_1 < (l0.length:Int):=of_decide_eq_true za7
     obtain ⟨ad22006,A22006_5,c22006_5,A22006_6,c22006_6,e22006,hx22006_0,hx22006_1,hx22006_2,hx22006_3,hx22006_4,hx22006_5,hx22006_6,hx22006_7,hl22006_5,hi22006_5,hl22006_6,hi22006_6⟩:=at_T46 HR0.out x5_1 p22006 q22006
     obtain rfl:ad22001=ad22006:=(by injection e22006)
     (try (have E_:=zi (hx22006_5.symm.trans hv22001_5);injection E_ with e1_ e2_ e3_;(try subst e1_);(try subst e3_)))
     (try (have E_:=zi (hx22006_5.symm.trans hv22002_5);injection E_ with e1_ e2_ e3_;(try subst e1_);(try subst e3_)))
     (try (have E_:=zi (hx22006_5.symm.trans hv22004_5);injection E_ with e1_ e2_ e3_;(try subst e1_);(try subst e3_)))
     (try (have E_:=zi (hx22006_5.symm.trans hv22006_5);injection E_ with e1_ e2_ e3_;(try subst e1_);(try subst e3_)))
     (try (have E_:=zi (hx22006_5.symm.trans hv22007_5);injection E_ with e1_ e2_ e3_;(try subst e1_);(try subst e3_)))
     (try (have E_:=zi (hx22006_5.symm.trans hv22009_5);injection E_ with e1_ e2_ e3_;(try subst e1_);(try subst e3_)))
     have hv22006_5:=hx22006_5
     (try (have E_:=zi (hx22006_6.symm.trans hv22001_6);injection E_ with e1_ e2_ e3_;(try subst e1_);(try subst e3_)))
     (try (have E_:=zi (hx22006_6.symm.trans hv22002_6);injection E_ with e1_ e2_ e3_;(try subst e1_);(try subst e3_)))
     (try (have E_:=zi (hx22006_6.symm.trans hv22004_6);injection E_ with e1_ e2_ e3_;(try subst e1_);(try subst e3_)))
     (try (have E_:=zi (hx22006_6.symm.trans hv22006_6);injection E_ with e1_ e2_ e3_;(try subst e1_);(try subst e3_)))
     (try (have E_:=zi (hx22006_6.symm.trans hv22007_6);injection E_ with e1_ e2_ e3_;(try subst e1_);(try subst e3_)))
     (try (have E_:=zi (hx22006_6.symm.trans hv22009_6);injection E_ with e1_ e2_ e3_;(try subst e1_);(try subst e3_)))
     have hv22006_6:=hx22006_6
     replace hx22006_0:=zx HB.out hx22006_0
     replace hx22006_1:=zx HB.out hx22006_1
     replace hx22006_2:=zx HB.out hx22006_2
     replace hx22006_3:=zx HB.out hx22006_3
     replace hx22006_4:=zx HB.out hx22006_4
     replace hx22006_5:=zx HB.out hx22006_5
     replace hx22006_6:=zx HB.out hx22006_6
     replace hx22006_7:=zx HB.out hx22006_7
     have HR22006_5:=zk hi22006_5
     have HC22006_5:=zk hl22006_5
     clear hi22006_5 hl22006_5
     have HR22006_6:=zk hi22006_6
     have HC22006_6:=zk hl22006_6
     clear hi22006_6 hl22006_6
     replace p22006:=eq_true p22006
     replace q22006:=eq_true q22006
     try go_wp2
     replace HB:=zk (below_drew1 HB.out)
     have p22007:0≤(x5_1:Int):=of_decide_eq_true za7
     have q22007:x5_1 < (l0.length:Int):=of_decide_eq_true za7
     obtain ⟨ad22007,A22007_5,c22007_5,A22007_6,c22007_6,e22007,hx22007_0,hx22007_1,hx22007_2,hx22007_3,hx22007_4,hx22007_5,hx22007_6,hx22007_7,hl22007_5,hi22007_5,hl22007_6,hi22007_6⟩:=at_T46 HR0.out x5_1 p22007 q22007
     have hw22007_7:=hx22007_7
     have hw22007_6:=hx22007_6
     have hw22007_5:=hx22007_5
     have hw22007_4:=hx22007_4
     have hw22007_3:=hx22007_3
     have hw22007_2:=hx22007_2
     have hw22007_1:=hx22007_1
     have hw22007_0:=hx22007_0
     obtain rfl:ad22001=ad22007:=(by injection e22007)
     (try (have E_:=zi (hx22007_5.symm.trans hv22001_5);injection E_ with e1_ e2_ e3_;(try subst e1_);(try subst e3_)))
     (try (have E_:=zi (hx22007_5.symm.trans hv22002_5);injection E_ with e1_ e2_ e3_;(try subst e1_);(try subst e3_)))
     (try (have E_:=zi (hx22007_5.symm.trans hv22004_5);injection E_ with e1_ e2_ e3_;(try subst e1_);(try subst e3_)))
     (try (have E_:=zi (hx22007_5.symm.trans hv22006_5);injection E_ with e1_ e2_ e3_;(try subst e1_);(try subst e3_)))
     (try (have E_:=zi (hx22007_5.symm.trans hv22007_5);injection E_ with e1_ e2_ e3_;(try subst e1_);(try subst e3_)))
     (try (have E_:=zi (hx22007_5.symm.trans hv22009_5);injection E_ with e1_ e2_ e3_;(try subst e1_);(try subst e3_)))
     have hv22007_5:=hx22007_5
     (try (have E_:=zi (hx22007_6.symm.trans hv22001_6);injection E_ with e1_ e2_ e3_;(try subst e1_);(try subst e3_)))
     (try (have E_:=zi (hx22007_6.symm.trans hv22002_6);injection E_ with e1_ e2_ e3_;(try subst e1_);(try subst e3_)))
     (try (have E_:=zi (hx22007_6.symm.trans hv22004_6);injection E_ with e1_ e2_ e3_;(try subst e1_);(try subst e3_)))
     (try (have E_:=zi (hx22007_6.symm.trans hv22006_6);injection E_ with e1_ e2_ e3_;(try subst e1_);(try subst e3_)))
     (try (have E_:=zi (hx22007_6.symm.trans hv22007_6);injection E_ with e1_ e2_ e3_;(try subst e1_);(try subst e3_)))
     (try (have E_:=zi (hx22007_6.symm.trans hv22009_6);injection E_ with e1_ e2_ e3_;(try subst e1_);(try subst e3_)))
     have hv22007_6:=hx22007_6
     replace hx22007_0:=zx HB.out hx22007_0
     replace hx22007_1:=zx HB.out hx22007_1
     replace hx22007_2:=zx HB.out hx22007_2
     replace hx22007_3:=zx HB.out hx22007_3
     replace hx22007_4:=zx HB.out hx22007_4
     replace hx22007_5:=zx HB.out hx22007_5
     replace hx22007_6:=zx HB.out hx22007_6
     replace hx22007_7:=zx HB.out hx22007_7
     have HR22007_5:=zk hi22007_5
     have HC22007_5:=zk hl22007_5
     clear hi22007_5 hl22007_5
     have HR22007_6:=zk hi22007_6
     have HC22007_6:=zk hl22007_6
     clear hi22007_6 hl22007_6
     replace p22007:=eq_true p22007
     replace q22007:=eq_true q22007
     refine start_ (n:=9) (S:=fun w'=>w'.cell? (ad22001.add ((x5_1).toNat * 8))=some (.int .i64 ((rd_T46 l0 x5_1).f0))∧w'.cell? ⟨(ad22001.add ((x5_1).toNat * 8)).block,(ad22001.add ((x5_1).toNat * 8)).off+1,none⟩=some (.string ((rd_T46 l0 x5_1).f1))∧w'.cell? ⟨(ad22001.add ((x5_1).toNat * 8)).block,(ad22001.add ((x5_1).toNat * 8)).off+2,none⟩=some (.string ((rd_T46 l0 x5_1).f2))∧w'.cell? ⟨(ad22001.add ((x5_1).toNat * 8)).block,(ad22001.add ((x5_1).toNat * 8)).off+3,none⟩=some (.int .i64 ((rd_T46 l0 x5_1).f3.f0))∧w'.cell? ⟨(ad22001.add ((x5_1).toNat * 8)).block,(ad22001.add ((x5_1).toNat * 8)).off+4,none⟩=some (.string ((rd_T46 l0 x5_1).f3.f1))∧w'.cell? ⟨(ad22001.add ((x5_1).toNat * 8)).block,(ad22001.add ((x5_1).toNat * 8)).off+5,none⟩=some (.slice A22007_5 ((rd_T46 l0 x5_1).f3.f2).length c22007_5)∧w'.cell? ⟨(ad22001.add ((x5_1).toNat * 8)).block,(ad22001.add ((x5_1).toNat * 8)).off+6,none⟩=some (.slice A22007_6 ((rd_T46 l0 x5_1).f4).length c22007_6)∧w'.cell? ⟨(ad22001.add ((x5_1).toNat * 8)).block,(ad22001.add ((x5_1).toNat * 8)).off+7,none⟩=some (.int .i64 ((rd_T46 l0 x5_1).f5))) (ds:=[]) #[false,false,false,false,false,false,false,false,false] (by kernel_rfl) rfl rfl ⟨((HB.out.cell (World.block_lt_of_cell? w _ hw22007_0)).trans hw22007_0),((HB.out.cell (World.block_lt_of_cell? w _ hw22007_1)).trans hw22007_1),((HB.out.cell (World.block_lt_of_cell? w _ hw22007_2)).trans hw22007_2),((HB.out.cell (World.block_lt_of_cell? w _ hw22007_3)).trans hw22007_3),((HB.out.cell (World.block_lt_of_cell? w _ hw22007_4)).trans hw22007_4),((HB.out.cell (World.block_lt_of_cell? w _ hw22007_5)).trans hw22007_5),((HB.out.cell (World.block_lt_of_cell? w _ hw22007_6)).trans hw22007_6),((HB.out.cell (World.block_lt_of_cell? w _ hw22007_7)).trans hw22007_7)⟩ (fun hHeld=>?_);refine with_tabW laws_heldConstraintS.tab16 laws_heldConstraintS.bits16 (fun HT_ HW_=>?_)
     generalize w27.drew=w28 at HB HR22007_5 HR22007_6 hx22007_0 hx22007_1 hx22007_2 hx22007_3 hx22007_4 hx22007_5 hx22007_6 hx22007_7 hHeld ⊢
     refine zy 0 (some 51) HT_.out ?_
     refine zy 1 (some 52) HT_.out ?_
     refine zy 2 (some 53) HT_.out ?_
     refine zy 3 (some 54) HT_.out ?_
     refine zy 4 (some 55) HT_.out ?_
     refine zy 6 (some 57) HT_.out ?_
     refine ztk 5 (some 56) HT_.out HW_.out hHeld ?_
     refine zon 7 (some 58) HT_.out (fun K hK=>?_)
     refine goes_ Try.func32 (by kernel_rfl) rfl #[.int .i64 (wrap64 ((wrap64 ((wrap64 ((wrap64 (x1_1+1))+1))+1))+1))] (by rfl) rfl rfl za6 ?_
     with_reducible refine (laws_markText.calls k1 (wrap64 ((wrap64 ((wrap64 ((wrap64 (x1_1+1))+1))+1))+1)) t8 _ A11.out).mono ?_
     rintro e w29 ⟨rfl,hb⟩
     refine ⟨_,rfl,?_⟩
     replace HB:=yB HB hb
     (try clear hb)
     (try clear hb2)
     (try clear hk)
     (try clear hi)
     refine hK.out _ _ ⟨((HB.out.cell (World.block_lt_of_cell? w _ hw22007_0)).trans hw22007_0),((HB.out.cell (World.block_lt_of_cell? w _ hw22007_1)).trans hw22007_1),((HB.out.cell (World.block_lt_of_cell? w _ hw22007_2)).trans hw22007_2),((HB.out.cell (World.block_lt_of_cell? w _ hw22007_3)).trans hw22007_3),((HB.out.cell (World.block_lt_of_cell? w _ hw22007_4)).trans hw22007_4),((HB.out.cell (World.block_lt_of_cell? w _ hw22007_5)).trans hw22007_5),((HB.out.cell (World.block_lt_of_cell? w _ hw22007_6)).trans hw22007_6),((HB.out.cell (World.block_lt_of_cell? w _ hw22007_7)).trans hw22007_7)⟩ (fun hHeld=>?_)
     clear hK K
     refine zno (some 58) ?_
     refine zy 8 (some 59) HT_.out ?_
     refine done_ (done_of HT_.out (by kernel_rfl)) ?_
     have p22009:0≤(x5_1:Int):=of_decide_eq_true za7
     have q22009:x5_1 < (l0.length:Int):=of_decide_eq_true za7
     obtain ⟨ad22009,A22009_5,c22009_5,A22009_6,c22009_6,e22009,hx22009_0,hx22009_1,hx22009_2,hx22009_3,hx22009_4,hx22009_5,hx22009_6,hx22009_7,hl22009_5,hi22009_5,hl22009_6,hi22009_6⟩:=at_T46 HR0.out x5_1 p22009 q22009
     obtain rfl:ad22001=ad22009:=(by injection e22009)
     (try (have E_:=zi (hx22009_5.symm.trans hv22001_5);injection E_ with e1_ e2_ e3_;(try subst e1_);(try subst e3_)))
     (try (have E_:=zi (hx22009_5.symm.trans hv22002_5);injection E_ with e1_ e2_ e3_;(try subst e1_);(try subst e3_)))
     (try (have E_:=zi (hx22009_5.symm.trans hv22004_5);injection E_ with e1_ e2_ e3_;(try subst e1_);(try subst e3_)))
     (try (have E_:=zi (hx22009_5.symm.trans hv22006_5);injection E_ with e1_ e2_ e3_;(try subst e1_);(try subst e3_)))
     (try (have E_:=zi (hx22009_5.symm.trans hv22007_5);injection E_ with e1_ e2_ e3_;(try subst e1_);(try subst e3_)))
     (try (have E_:=zi (hx22009_5.symm.trans hv22009_5);injection E_ with e1_ e2_ e3_;(try subst e1_);(try subst e3_)))
     have hv22009_5:=hx22009_5
     (try (have E_:=zi (hx22009_6.symm.trans hv22001_6);injection E_ with e1_ e2_ e3_;(try subst e1_);(try subst e3_)))
     (try (have E_:=zi (hx22009_6.symm.trans hv22002_6);injection E_ with e1_ e2_ e3_;(try subst e1_);(try subst e3_)))
     (try (have E_:=zi (hx22009_6.symm.trans hv22004_6);injection E_ with e1_ e2_ e3_;(try subst e1_);(try subst e3_)))
     (try (have E_:=zi (hx22009_6.symm.trans hv22006_6);injection E_ with e1_ e2_ e3_;(try subst e1_);(try subst e3_)))
     (try (have E_:=zi (hx22009_6.symm.trans hv22007_6);injection E_ with e1_ e2_ e3_;(try subst e1_);(try subst e3_)))
     (try (have E_:=zi (hx22009_6.symm.trans hv22009_6);injection E_ with e1_ e2_ e3_;(try subst e1_);(try subst e3_)))
     have hv22009_6:=hx22009_6
     replace hx22009_0:=zx HB.out hx22009_0
     replace hx22009_1:=zx HB.out hx22009_1
     replace hx22009_2:=zx HB.out hx22009_2
     replace hx22009_3:=zx HB.out hx22009_3
     replace hx22009_4:=zx HB.out hx22009_4
     replace hx22009_5:=zx HB.out hx22009_5
     replace hx22009_6:=zx HB.out hx22009_6
     replace hx22009_7:=zx HB.out hx22009_7
     have HR22009_5:=zk hi22009_5
     have HC22009_5:=zk hl22009_5
     clear hi22009_5 hl22009_5
     have HR22009_6:=zk hi22009_6
     have HC22009_6:=zk hl22009_6
     clear hi22009_6 hl22009_6
     replace p22009:=eq_true p22009
     replace q22009:=eq_true q22009
     try go_wp2_with (first|((with_reducible refine gate_callee (f:=35) rfl ?_);refine zg (some 69) Try.func35 #[.slice A22009_5 ((rd_T46 l0 x5_1).f3.f2).length c22009_5,.int .i64 (wrap64 ((wrap64 ((wrap64 ((wrap64 ((wrap64 (x1_1+1))+1))+1))+1))+1))] rfl za6 ?_;(with_reducible refine (laws_heldRegexS.calls k1 _ _ ((rd_T46 l0 x5_1).f3.f2) (wrap64 ((wrap64 ((wrap64 ((wrap64 ((wrap64 (x1_1+1))+1))+1))+1))+1)) t10 _ ?side1 ?side2 A13.out).mono ?_);(case side1=>repeat (first|exact (Kd.C_below HR22009_5.out HB.out)|(with_reducible refine Kd.C_alloc ?_ _)|(with_reducible refine Kd.C_drewN ?_ _)|(with_reducible refine Kd.C_drew ?_)));(case side2=>exact HC22009_5.out);rintro e w30 ⟨rfl,hb⟩;refine ⟨_,rfl,?_⟩;replace HB:=yB HB hb;(try clear hb);have p22011:0≤(x5_1:Int):=of_decide_eq_true za7;have q22011:x5_1 < (l0.length:Int):=of_decide_eq_true za7;obtain ⟨ad22011,A22011_5,c22011_5,A22011_6,c22011_6,e22011,hx22011_0,hx22011_1,hx22011_2,hx22011_3,hx22011_4,hx22011_5,hx22011_6,hx22011_7,hl22011_5,hi22011_5,hl22011_6,hi22011_6⟩:=at_T46 HR0.out x5_1 p22011 q22011;obtain rfl:ad22001=ad22011:=(by injection e22011);replace hx22011_0:=zx HB.out hx22011_0;replace hx22011_1:=zx HB.out hx22011_1;replace hx22011_2:=zx HB.out hx22011_2;replace hx22011_3:=zx HB.out hx22011_3;replace hx22011_4:=zx HB.out hx22011_4;replace hx22011_5:=zx HB.out hx22011_5;replace hx22011_6:=zx HB.out hx22011_6;replace hx22011_7:=zx HB.out hx22011_7;have HR22011_5:=zk hi22011_5;have HC22011_5:=zk hl22011_5;clear hi22011_5 hl22011_5;have HR22011_6:=zk hi22011_6;have HC22011_6:=zk hl22011_6;clear hi22011_6 hl22011_6;replace p22011:=eq_true p22011;replace q22011:=eq_true q22011)|((with_reducible refine gate_callee (f:=36) rfl ?_);refine zg (some 78) Try.func36 #[.slice A22011_6 ((rd_T46 l0 x5_1).f4).length c22011_6,.int .i64 t10] rfl za6 ?_;(with_reducible refine (laws_heldIntS.calls k1 _ _ ((rd_T46 l0 x5_1).f4) t10 t12 _ ?side1 ?side2 A22.out).mono ?_);(case side1=>repeat (first|exact (Kd.C_below HR22011_6.out HB.out)|(with_reducible refine Kd.C_alloc ?_ _)|(with_reducible refine Kd.C_drewN ?_ _)|(with_reducible refine Kd.C_drew ?_)));(case side2=>exact HC22011_6.out);rintro e w' ⟨rfl,⟨nd,rfl⟩⟩;refine ⟨_,rfl,?_⟩))
     go_ret
     exact ⟨za8,za5⟩
   rw [if_neg c23] at H
   have c23b0:=zdnl c23
   clear c23
   by_cases c31:((rd_T46 l0 x5_1).f5)=t12
   rw [if_pos c31] at H
   have c31b0:=zbt c31
   have c31b1:=zqn c31
   clear c31
   have H':=zk H
   clear H
   have tag0_:=zk trivial
   have fin0_:=zk trivial
   rotate_left
   rw [if_neg c31] at H
   have c31b0:=zbn c31
   have c31b1:=zqt c31
   obtain rfl:=zi H
   have tag0_:=zk trivial
   have fin1_:=zk trivial
   rotate_left
   · rw [if_neg c12] at H
     have c12b0:=zbn c12
     have c12b1:=zqt c12
     obtain rfl:=zi H
     have p22001:0≤(x5_1:Int):=of_decide_eq_true za7
     have q22001:x5_1 < (l0.length:Int):=of_decide_eq_true za7
     obtain ⟨ad22001,A22001_5,c22001_5,A22001_6,c22001_6,e22001,hx22001_0,hx22001_1,hx22001_2,hx22001_3,hx22001_4,hx22001_5,hx22001_6,hx22001_7,hl22001_5,hi22001_5,hl22001_6,hi22001_6⟩:=at_T46 HR0.out x5_1 p22001 q22001
     cases e22001
     (try (have E_:=zi (hx22001_5.symm.trans hv22001_5);injection E_ with e1_ e2_ e3_;(try subst e1_);(try subst e3_)))
     (try (have E_:=zi (hx22001_5.symm.trans hv22002_5);injection E_ with e1_ e2_ e3_;(try subst e1_);(try subst e3_)))
     (try (have E_:=zi (hx22001_5.symm.trans hv22004_5);injection E_ with e1_ e2_ e3_;(try subst e1_);(try subst e3_)))
     (try (have E_:=zi (hx22001_5.symm.trans hv22006_5);injection E_ with e1_ e2_ e3_;(try subst e1_);(try subst e3_)))
     (try (have E_:=zi (hx22001_5.symm.trans hv22007_5);injection E_ with e1_ e2_ e3_;(try subst e1_);(try subst e3_)))
     (try (have E_:=zi (hx22001_5.symm.trans hv22009_5);injection E_ with e1_ e2_ e3_;(try subst e1_);(try subst e3_)))
     have hv22001_5:=hx22001_5
     (try (have E_:=zi (hx22001_6.symm.trans hv22001_6);injection E_ with e1_ e2_ e3_;(try subst e1_);(try subst e3_)))
     (try (have E_:=zi (hx22001_6.symm.trans hv22002_6);injection E_ with e1_ e2_ e3_;(try subst e1_);(try subst e3_)))
     (try (have E_:=zi (hx22001_6.symm.trans hv22004_6);injection E_ with e1_ e2_ e3_;(try subst e1_);(try subst e3_)))
     (try (have E_:=zi (hx22001_6.symm.trans hv22006_6);injection E_ with e1_ e2_ e3_;(try subst e1_);(try subst e3_)))
     (try (have E_:=zi (hx22001_6.symm.trans hv22007_6);injection E_ with e1_ e2_ e3_;(try subst e1_);(try subst e3_)))
     (try (have E_:=zi (hx22001_6.symm.trans hv22009_6);injection E_ with e1_ e2_ e3_;(try subst e1_);(try subst e3_)))
     have hv22001_6:=hx22001_6
     replace hx22001_0:=zx HB.out hx22001_0
     replace hx22001_1:=zx HB.out hx22001_1
     replace hx22001_2:=zx HB.out hx22001_2
     replace hx22001_3:=zx HB.out hx22001_3
     replace hx22001_4:=zx HB.out hx22001_4
     replace hx22001_5:=zx HB.out hx22001_5
     replace hx22001_6:=zx HB.out hx22001_6
     replace hx22001_7:=zx HB.out hx22001_7
     have HR22001_5:=zk hi22001_5
     have HC22001_5:=zk hl22001_5
     clear hi22001_5 hl22001_5
     have HR22001_6:=zk hi22001_6
     have HC22001_6:=zk hl22001_6
     clear hi22001_6 hl22001_6
     replace p22001:=eq_true p22001
     replace q22001:=eq_true q22001
     try go_wp2
     replace HB:=zk (below_drew1 HB.out)
     have p22002:0≤(x5_1:Int):=of_decide_eq_true za7
     have q22002:x5_1 < (l0.length:Int):=of_decide_eq_true za7
     obtain ⟨ad22002,A22002_5,c22002_5,A22002_6,c22002_6,e22002,hx22002_0,hx22002_1,hx22002_2,hx22002_3,hx22002_4,hx22002_5,hx22002_6,hx22002_7,hl22002_5,hi22002_5,hl22002_6,hi22002_6⟩:=at_T46 HR0.out x5_1 p22002 q22002
     have hw22002_7:=hx22002_7
     have hw22002_6:=hx22002_6
     have hw22002_5:=hx22002_5
     have hw22002_4:=hx22002_4
     have hw22002_3:=hx22002_3
     have hw22002_2:=hx22002_2
     have hw22002_1:=hx22002_1
     have hw22002_0:=hx22002_0
     obtain rfl:ad22001=ad22002:=(by injection e22002)
     (try (have E_:=zi (hx22002_5.symm.trans hv22001_5);injection E_ with e1_ e2_ e3_;(try subst e1_);(try subst e3_)))
     (try (have E_:=zi (hx22002_5.symm.trans hv22002_5);injection E_ with e1_ e2_ e3_;(try subst e1_);(try subst e3_)))
     (try (have E_:=zi (hx22002_5.symm.trans hv22004_5);injection E_ with e1_ e2_ e3_;(try subst e1_);(try subst e3_)))
     (try (have E_:=zi (hx22002_5.symm.trans hv22006_5);injection E_ with e1_ e2_ e3_;(try subst e1_);(try subst e3_)))
     (try (have E_:=zi (hx22002_5.symm.trans hv22007_5);injection E_ with e1_ e2_ e3_;(try subst e1_);(try subst e3_)))
     (try (have E_:=zi (hx22002_5.symm.trans hv22009_5);injection E_ with e1_ e2_ e3_;(try subst e1_);(try subst e3_)))
     have hv22002_5:=hx22002_5
     (try (have E_:=zi (hx22002_6.symm.trans hv22001_6);injection E_ with e1_ e2_ e3_;(try subst e1_);(try subst e3_)))
     (try (have E_:=zi (hx22002_6.symm.trans hv22002_6);injection E_ with e1_ e2_ e3_;(try subst e1_);(try subst e3_)))
     (try (have E_:=zi (hx22002_6.symm.trans hv22004_6);injection E_ with e1_ e2_ e3_;(try subst e1_);(try subst e3_)))
     (try (have E_:=zi (hx22002_6.symm.trans hv22006_6);injection E_ with e1_ e2_ e3_;(try subst e1_);(try subst e3_)))
     (try (have E_:=zi (hx22002_6.symm.trans hv22007_6);injection E_ with e1_ e2_ e3_;(try subst e1_);(try subst e3_)))
     (try (have E_:=zi (hx22002_6.symm.trans hv22009_6);injection E_ with e1_ e2_ e3_;(try subst e1_);(try subst e3_)))
     have hv22002_6:=hx22002_6
     replace hx22002_0:=zx HB.out hx22002_0
     replace hx22002_1:=zx HB.out hx22002_1
     replace hx22002_2:=zx HB.out hx22002_2
     replace hx22002_3:=zx HB.out hx22002_3
     replace hx22002_4:=zx HB.out hx22002_4
     replace hx22002_5:=zx HB.out hx22002_5
     replace hx22002_6:=zx HB.out hx22002_6
     replace hx22002_7:=zx HB.out hx22002_7
     have HR22002_5:=zk hi22002_5
     have HC22002_5:=zk hl22002_5
     clear hi22002_5 hl22002_5
     have HR22002_6:=zk hi22002_6
     have HC22002_6:=zk hl22002_6
     clear hi22002_6 hl22002_6
     replace p22002:=eq_true p22002
     replace q22002:=eq_true q22002
     refine start_ (n:=8) (S:=fun w'=>w'.cell? (ad22001.add ((x5_1).toNat * 8))=some (.int .i64 ((rd_T46 l0 x5_1).f0))∧w'.cell? ⟨(ad22001.add ((x5_1).toNat * 8)).block,(ad22001.add ((x5_1).toNat * 8)).off+1,none⟩=some (.string ((rd_T46 l0 x5_1).f1))∧w'.cell? ⟨(ad22001.add ((x5_1).toNat * 8)).block,(ad22001.add ((x5_1).toNat * 8)).off+2,none⟩=some (.string ((rd_T46 l0 x5_1).f2))∧w'.cell? ⟨(ad22001.add ((x5_1).toNat * 8)).block,(ad22001.add ((x5_1).toNat * 8)).off+3,none⟩=some (.int .i64 ((rd_T46 l0 x5_1).f3.f0))∧w'.cell? ⟨(ad22001.add ((x5_1).toNat * 8)).block,(ad22001.add ((x5_1).toNat * 8)).off+4,none⟩=some (.string ((rd_T46 l0 x5_1).f3.f1))∧w'.cell? ⟨(ad22001.add ((x5_1).toNat * 8)).block,(ad22001.add ((x5_1).toNat * 8)).off+5,none⟩=some (.slice A22002_5 ((rd_T46 l0 x5_1).f3.f2).length c22002_5)∧w'.cell? ⟨(ad22001.add ((x5_1).toNat * 8)).block,(ad22001.add ((x5_1).toNat * 8)).off+6,none⟩=some (.slice A22002_6 ((rd_T46 l0 x5_1).f4).length c22002_6)∧w'.cell? ⟨(ad22001.add ((x5_1).toNat * 8)).block,(ad22001.add ((x5_1).toNat * 8)).off+7,none⟩=some (.int .i64 ((rd_T46 l0 x5_1).f5))) (ds:=[]) #[false,false,false,false,false,false,false,false] (by kernel_rfl) rfl rfl ⟨((HB.out.cell (World.block_lt_of_cell? w _ hw22002_0)).trans hw22002_0),((HB.out.cell (World.block_lt_of_cell? w _ hw22002_1)).trans hw22002_1),((HB.out.cell (World.block_lt_of_cell? w _ hw22002_2)).trans hw22002_2),((HB.out.cell (World.block_lt_of_cell? w _ hw22002_3)).trans hw22002_3),((HB.out.cell (World.block_lt_of_cell? w _ hw22002_4)).trans hw22002_4),((HB.out.cell (World.block_lt_of_cell? w _ hw22002_5)).trans hw22002_5),((HB.out.cell (World.block_lt_of_cell? w _ hw22002_6)).trans hw22002_6),((HB.out.cell (World.block_lt_of_cell? w _ hw22002_7)).trans hw22002_7)⟩ (fun hHeld=>?_);refine with_tabW laws_heldConstraintS.tab7 laws_heldConstraintS.bits7 (fun HT_ HW_=>?_)
     generalize wr.drew=w46 at HB HR22002_5 HR22002_6 hx22002_0 hx22002_1 hx22002_2 hx22002_3 hx22002_4 hx22002_5 hx22002_6 hx22002_7 hHeld ⊢
     refine zy 0 (some 21) HT_.out ?_
     refine zy 1 (some 22) HT_.out ?_
     refine zy 2 (some 23) HT_.out ?_
     refine zy 3 (some 24) HT_.out ?_
     refine zy 5 (some 26) HT_.out ?_
     refine ztk 4 (some 25) HT_.out HW_.out hHeld ?_
     refine zon 6 (some 27) HT_.out (fun K hK=>?_)
     refine goes_ Try.func32 (by kernel_rfl) rfl #[.int .i64 (wrap64 (x1_1+1))] (by rfl) rfl rfl za6 ?_
     with_reducible refine (laws_markText.calls k1 (wrap64 (x1_1+1)) t3 _ A6.out).mono ?_
     rintro e w47 ⟨rfl,hb⟩
     refine ⟨_,rfl,?_⟩
     replace HB:=yB HB hb
     (try clear hb)
     (try clear hb2)
     (try clear hk)
     (try clear hi)
     refine hK.out _ _ ⟨((HB.out.cell (World.block_lt_of_cell? w _ hw22002_0)).trans hw22002_0),((HB.out.cell (World.block_lt_of_cell? w _ hw22002_1)).trans hw22002_1),((HB.out.cell (World.block_lt_of_cell? w _ hw22002_2)).trans hw22002_2),((HB.out.cell (World.block_lt_of_cell? w _ hw22002_3)).trans hw22002_3),((HB.out.cell (World.block_lt_of_cell? w _ hw22002_4)).trans hw22002_4),((HB.out.cell (World.block_lt_of_cell? w _ hw22002_5)).trans hw22002_5),((HB.out.cell (World.block_lt_of_cell? w _ hw22002_6)).trans hw22002_6),((HB.out.cell (World.block_lt_of_cell? w _ hw22002_7)).trans hw22002_7)⟩ (fun hHeld=>?_)
     clear hK K
     refine zno (some 27) ?_
     refine zy 7 (some 28) HT_.out ?_
     refine done_ (done_of HT_.out (by kernel_rfl)) ?_
     try go_wp2
     replace HB:=zk (below_drew1 HB.out)
     have p22004:0≤(x5_1:Int):=of_decide_eq_true za7
     have q22004:x5_1 < (l0.length:Int):=of_decide_eq_true za7
     obtain ⟨ad22004,A22004_5,c22004_5,A22004_6,c22004_6,e22004,hx22004_0,hx22004_1,hx22004_2,hx22004_3,hx22004_4,hx22004_5,hx22004_6,hx22004_7,hl22004_5,hi22004_5,hl22004_6,hi22004_6⟩:=at_T46 HR0.out x5_1 p22004 q22004
     have hw22004_7:=hx22004_7
     have hw22004_6:=hx22004_6
     have hw22004_5:=hx22004_5
     have hw22004_4:=hx22004_4
     have hw22004_3:=hx22004_3
     have hw22004_2:=hx22004_2
     have hw22004_1:=hx22004_1
     have hw22004_0:=hx22004_0
     obtain rfl:ad22001=ad22004:=(by injection e22004)
     (try (have E_:=zi (hx22004_5.symm.trans hv22001_5);injection E_ with e1_ e2_ e3_;(try subst e1_);(try subst e3_)))
     (try (have E_:=zi (hx22004_5.symm.trans hv22002_5);injection E_ with e1_ e2_ e3_;(try subst e1_);(try subst e3_)))
     (try (have E_:=zi (hx22004_5.symm.trans hv22004_5);injection E_ with e1_ e2_ e3_;(try subst e1_);(try subst e3_)))
     (try (have E_:=zi (hx22004_5.symm.trans hv22006_5);injection E_ with e1_ e2_ e3_;(try subst e1_);(try subst e3_)))
     (try (have E_:=zi (hx22004_5.symm.trans hv22007_5);injection E_ with e1_ e2_ e3_;(try subst e1_);(try subst e3_)))
     (try (have E_:=zi (hx22004_5.symm.trans hv22009_5);injection E_ with e1_ e2_ e3_;(try subst e1_);(try subst e3_)))
     have hv22004_5:=hx22004_5
     (try (have E_:=zi (hx22004_6.symm.trans hv22001_6);injection E_ with e1_ e2_ e3_;(try subst e1_);(try subst e3_)))
     (try (have E_:=zi (hx22004_6.symm.trans hv22002_6);injection E_ with e1_ e2_ e3_;(try subst e1_);(try subst e3_)))
     (try (have E_:=zi (hx22004_6.symm.trans hv22004_6);injection E_ with e1_ e2_ e3_;(try subst e1_);(try subst e3_)))
     (try (have E_:=zi (hx22004_6.symm.trans hv22006_6);injection E_ with e1_ e2_ e3_;(try subst e1_);(try subst e3_)))
     (try (have E_:=zi (hx22004_6.symm.trans hv22007_6);injection E_ with e1_ e2_ e3_;(try subst e1_);(try subst e3_)))
     (try (have E_:=zi (hx22004_6.symm.trans hv22009_6);injection E_ with e1_ e2_ e3_;(try subst e1_);(try subst e3_)))
     have hv22004_6:=hx22004_6
     replace hx22004_0:=zx HB.out hx22004_0
     replace hx22004_1:=zx HB.out hx22004_1
     replace hx22004_2:=zx HB.out hx22004_2
     replace hx22004_3:=zx HB.out hx22004_3
     replace hx22004_4:=zx HB.out hx22004_4
     replace hx22004_5:=zx HB.out hx22004_5
     replace hx22004_6:=zx HB.out hx22004_6
     replace hx22004_7:=zx HB.out hx22004_7
     have HR22004_5:=zk hi22004_5
     have HC22004_5:=zk hl22004_5
     clear hi22004_5 hl22004_5
     have HR22004_6:=zk hi22004_6
     have HC22004_6:=zk hl22004_6
     clear hi22004_6 hl22004_6
     replace p22004:=eq_true p22004
     replace q22004:=eq_true q22004
     refine start_ (n:=8) (S:=fun w'=>w'.cell? (ad22001.add ((x5_1).toNat * 8))=some (.int .i64 ((rd_T46 l0 x5_1).f0))∧w'.cell? ⟨(ad22001.add ((x5_1).toNat * 8)).block,(ad22001.add ((x5_1).toNat * 8)).off+1,none⟩=some (.string ((rd_T46 l0 x5_1).f1))∧w'.cell? ⟨(ad22001.add ((x5_1).toNat * 8)).block,(ad22001.add ((x5_1).toNat * 8)).off+2,none⟩=some (.string ((rd_T46 l0 x5_1).f2))∧w'.cell? ⟨(ad22001.add ((x5_1).toNat * 8)).block,(ad22001.add ((x5_1).toNat * 8)).off+3,none⟩=some (.int .i64 ((rd_T46 l0 x5_1).f3.f0))∧w'.cell? ⟨(ad22001.add ((x5_1).toNat * 8)).block,(ad22001.add ((x5_1).toNat * 8)).off+4,none⟩=some (.string ((rd_T46 l0 x5_1).f3.f1))∧w'.cell? ⟨(ad22001.add ((x5_1).toNat * 8)).block,(ad22001.add ((x5_1).toNat * 8)).off+5,none⟩=some (.slice A22004_5 ((rd_T46 l0 x5_1).f3.f2).length c22004_5)∧w'.cell? ⟨(ad22001.add ((x5_1).toNat * 8)).block,(ad22001.add ((x5_1).toNat * 8)).off+6,none⟩=some (.slice A22004_6 ((rd_T46 l0 x5_1).f4).length c22004_6)∧w'.cell? ⟨(ad22001.add ((x5_1).toNat * 8)).block,(ad22001.add ((x5_1).toNat * 8)).off+7,none⟩=some (.int .i64 ((rd_T46 l0 x5_1).f5))) (ds:=[]) #[false,false,false,false,false,false,false,false] (by kernel_rfl) rfl rfl ⟨((HB.out.cell (World.block_lt_of_cell? w _ hw22004_0)).trans hw22004_0),((HB.out.cell (World.block_lt_of_cell? w _ hw22004_1)).trans hw22004_1),((HB.out.cell (World.block_lt_of_cell? w _ hw22004_2)).trans hw22004_2),((HB.out.cell (World.block_lt_of_cell? w _ hw22004_3)).trans hw22004_3),((HB.out.cell (World.block_lt_of_cell? w _ hw22004_4)).trans hw22004_4),((HB.out.cell (World.block_lt_of_cell? w _ hw22004_5)).trans hw22004_5),((HB.out.cell (World.block_lt_of_cell? w _ hw22004_6)).trans hw22004_6),((HB.out.cell (World.block_lt_of_cell? w _ hw22004_7)).trans hw22004_7)⟩ (fun hHeld=>?_);refine with_tabW laws_heldConstraintS.tab10 laws_heldConstraintS.bits10 (fun HT_ HW_=>?_)
     generalize w47.drew=w48 at HB HR22004_5 HR22004_6 hx22004_0 hx22004_1 hx22004_2 hx22004_3 hx22004_4 hx22004_5 hx22004_6 hx22004_7 hHeld ⊢
     refine zy 0 (some 31) HT_.out ?_
     refine zy 1 (some 32) HT_.out ?_
     refine zy 2 (some 33) HT_.out ?_
     refine zy 3 (some 34) HT_.out ?_
     refine zy 5 (some 36) HT_.out ?_
     refine ztk 4 (some 35) HT_.out HW_.out hHeld ?_
     refine zon 6 (some 37) HT_.out (fun K hK=>?_)
     refine goes_ Try.func32 (by kernel_rfl) rfl #[.int .i64 (wrap64 ((wrap64 (x1_1+1))+1))] (by rfl) rfl rfl za6 ?_
     with_reducible refine (laws_markText.calls k1 (wrap64 ((wrap64 (x1_1+1))+1)) t5 _ A8.out).mono ?_
     rintro e w49 ⟨rfl,hb⟩
     refine ⟨_,rfl,?_⟩
     replace HB:=yB HB hb
     (try clear hb)
     (try clear hb2)
     (try clear hk)
     (try clear hi)
     refine hK.out _ _ ⟨((HB.out.cell (World.block_lt_of_cell? w _ hw22004_0)).trans hw22004_0),((HB.out.cell (World.block_lt_of_cell? w _ hw22004_1)).trans hw22004_1),((HB.out.cell (World.block_lt_of_cell? w _ hw22004_2)).trans hw22004_2),((HB.out.cell (World.block_lt_of_cell? w _ hw22004_3)).trans hw22004_3),((HB.out.cell (World.block_lt_of_cell? w _ hw22004_4)).trans hw22004_4),((HB.out.cell (World.block_lt_of_cell? w _ hw22004_5)).trans hw22004_5),((HB.out.cell (World.block_lt_of_cell? w _ hw22004_6)).trans hw22004_6),((HB.out.cell (World.block_lt_of_cell? w _ hw22004_7)).trans hw22004_7)⟩ (fun hHeld=>?_)
     clear hK K
     refine zno (some 37) ?_
     refine zy 7 (some 38) HT_.out ?_
     refine done_ (done_of HT_.out (by kernel_rfl)) ?_
     have p22006:0≤(x5_1:Int):=of_decide_eq_true za7
     have q22006:x5_1 < (l0.length:Int):=of_decide_eq_true za7
     obtain ⟨ad22006,A22006_5,c22006_5,A22006_6,c22006_6,e22006,hx22006_0,hx22006_1,hx22006_2,hx22006_3,hx22006_4,hx22006_5,hx22006_6,hx22006_7,hl22006_5,hi22006_5,hl22006_6,hi22006_6⟩:=at_T46 HR0.out x5_1 p22006 q22006
     obtain rfl:ad22001=ad22006:=(by injection e22006)
     (try (have E_:=zi (hx22006_5.symm.trans hv22001_5);injection E_ with e1_ e2_ e3_;(try subst e1_);(try subst e3_)))
     (try (have E_:=zi (hx22006_5.symm.trans hv22002_5);injection E_ with e1_ e2_ e3_;(try subst e1_);(try subst e3_)))
     (try (have E_:=zi (hx22006_5.symm.trans hv22004_5);injection E_ with e1_ e2_ e3_;(try subst e1_);(try subst e3_)))
     (try (have E_:=zi (hx22006_5.symm.trans hv22006_5);injection E_ with e1_ e2_ e3_;(try subst e1_);(try subst e3_)))
     (try (have E_:=zi (hx22006_5.symm.trans hv22007_5);injection E_ with e1_ e2_ e3_;(try subst e1_);(try subst e3_)))
     (try (have E_:=zi (hx22006_5.symm.trans hv22009_5);injection E_ with e1_ e2_ e3_;(try subst e1_);(try subst e3_)))
     have hv22006_5:=hx22006_5
     (try (have E_:=zi (hx22006_6.symm.trans hv22001_6);injection E_ with e1_ e2_ e3_;(try subst e1_);(try subst e3_)))
     (try (have E_:=zi (hx22006_6.symm.trans hv22002_6);injection E_ with e1_ e2_ e3_;(try subst e1_);(try subst e3_)))
     (try (have E_:=zi (hx22006_6.symm.trans hv22004_6);injection E_ with e1_ e2_ e3_;(try subst e1_);(try subst e3_)))
     (try (have E_:=zi (hx22006_6.symm.trans hv22006_6);injection E_ with e1_ e2_ e3_;(try subst e1_);(try subst e3_)))
     (try (have E_:=zi (hx22006_6.symm.trans hv22007_6);injection E_ with e1_ e2_ e3_;(try subst e1_);(try subst e3_)))
     (try (have E_:=zi (hx22006_6.symm.trans hv22009_6);injection E_ with e1_ e2_ e3_;(try subst e1_);(try subst e3_)))
     have hv22006_6:=hx22006_6
     replace hx22006_0:=zx HB.out hx22006_0
     replace hx22006_1:=zx HB.out hx22006_1
     replace hx22006_2:=zx HB.out hx22006_2
     replace hx22006_3:=zx HB.out hx22006_3
     replace hx22006_4:=zx HB.out hx22006_4
     replace hx22006_5:=zx HB.out hx22006_5
     replace hx22006_6:=zx HB.out hx22006_6
     replace hx22006_7:=zx HB.out hx22006_7
     have HR22006_5:=zk hi22006_5
     have HC22006_5:=zk hl22006_5
     clear hi22006_5 hl22006_5
     have HR22006_6:=zk hi22006_6
     have HC22006_6:=zk hl22006_6
     clear hi22006_6 hl22006_6
     replace p22006:=eq_true p22006
     replace q22006:=eq_true q22006
     try go_wp2
     replace HB:=zk (below_drew1 HB.out)
     have p22007:0≤(x5_1:Int):=of_decide_eq_true za7
     have q22007:x5_1 < (l0.length:Int):=of_decide_eq_true za7
     obtain ⟨ad22007,A22007_5,c22007_5,A22007_6,c22007_6,e22007,hx22007_0,hx22007_1,hx22007_2,hx22007_3,hx22007_4,hx22007_5,hx22007_6,hx22007_7,hl22007_5,hi22007_5,hl22007_6,hi22007_6⟩:=at_T46 HR0.out x5_1 p22007 q22007
     have hw22007_7:=hx22007_7
     have hw22007_6:=hx22007_6
     have hw22007_5:=hx22007_5
     have hw22007_4:=hx22007_4
     have hw22007_3:=hx22007_3
     have hw22007_2:=hx22007_2
     have hw22007_1:=hx22007_1
     have hw22007_0:=hx22007_0
     obtain rfl:ad22001=ad22007:=(by injection e22007)
     (try (have E_:=zi (hx22007_5.symm.trans hv22001_5);injection E_ with e1_ e2_ e3_;(try subst e1_);(try subst e3_)))
     (try (have E_:=zi (hx22007_5.symm.trans hv22002_5);injection E_ with e1_ e2_ e3_;(try subst e1_);(try subst e3_)))
     (try (have E_:=zi (hx22007_5.symm.trans hv22004_5);injection E_ with e1_ e2_ e3_;(try subst e1_);(try subst e3_)))
     (try (have E_:=zi (hx22007_5.symm.trans hv22006_5);injection E_ with e1_ e2_ e3_;(try subst e1_);(try subst e3_)))
     (try (have E_:=zi (hx22007_5.symm.trans hv22007_5);injection E_ with e1_ e2_ e3_;(try subst e1_);(try subst e3_)))
     (try (have E_:=zi (hx22007_5.symm.trans hv22009_5);injection E_ with e1_ e2_ e3_;(try subst e1_);(try subst e3_)))
     have hv22007_5:=hx22007_5
     (try (have E_:=zi (hx22007_6.symm.trans hv22001_6);injection E_ with e1_ e2_ e3_;(try subst e1_);(try subst e3_)))
     (try (have E_:=zi (hx22007_6.symm.trans hv22002_6);injection E_ with e1_ e2_ e3_;(try subst e1_);(try subst e3_)))
     (try (have E_:=zi (hx22007_6.symm.trans hv22004_6);injection E_ with e1_ e2_ e3_;(try subst e1_);(try subst e3_)))
     (try (have E_:=zi (hx22007_6.symm.trans hv22006_6);injection E_ with e1_ e2_ e3_;(try subst e1_);(try subst e3_)))
     (try (have E_:=zi (hx22007_6.symm.trans hv22007_6);injection E_ with e1_ e2_ e3_;(try subst e1_);(try subst e3_)))
     (try (have E_:=zi (hx22007_6.symm.trans hv22009_6);injection E_ with e1_ e2_ e3_;(try subst e1_);(try subst e3_)))
     have hv22007_6:=hx22007_6
     replace hx22007_0:=zx HB.out hx22007_0
     replace hx22007_1:=zx HB.out hx22007_1
     replace hx22007_2:=zx HB.out hx22007_2
     replace hx22007_3:=zx HB.out hx22007_3
     replace hx22007_4:=zx HB.out hx22007_4
     replace hx22007_5:=zx HB.out hx22007_5
     replace hx22007_6:=zx HB.out hx22007_6
     replace hx22007_7:=zx HB.out hx22007_7
     have HR22007_5:=zk hi22007_5
     have HC22007_5:=zk hl22007_5
     clear hi22007_5 hl22007_5
     have HR22007_6:=zk hi22007_6
     have HC22007_6:=zk hl22007_6
     clear hi22007_6 hl22007_6
     replace p22007:=eq_true p22007
     replace q22007:=eq_true q22007
     refine start_ (n:=9) (S:=fun w'=>w'.cell? (ad22001.add ((x5_1).toNat * 8))=some (.int .i64 ((rd_T46 l0 x5_1).f0))∧w'.cell? ⟨(ad22001.add ((x5_1).toNat * 8)).block,(ad22001.add ((x5_1).toNat * 8)).off+1,none⟩=some (.string ((rd_T46 l0 x5_1).f1))∧w'.cell? ⟨(ad22001.add ((x5_1).toNat * 8)).block,(ad22001.add ((x5_1).toNat * 8)).off+2,none⟩=some (.string ((rd_T46 l0 x5_1).f2))∧w'.cell? ⟨(ad22001.add ((x5_1).toNat * 8)).block,(ad22001.add ((x5_1).toNat * 8)).off+3,none⟩=some (.int .i64 ((rd_T46 l0 x5_1).f3.f0))∧w'.cell? ⟨(ad22001.add ((x5_1).toNat * 8)).block,(ad22001.add ((x5_1).toNat * 8)).off+4,none⟩=some (.string ((rd_T46 l0 x5_1).f3.f1))∧w'.cell? ⟨(ad22001.add ((x5_1).toNat * 8)).block,(ad22001.add ((x5_1).toNat * 8)).off+5,none⟩=some (.slice A22007_5 ((rd_T46 l0 x5_1).f3.f2).length c22007_5)∧w'.cell? ⟨(ad22001.add ((x5_1).toNat * 8)).block,(ad22001.add ((x5_1).toNat * 8)).off+6,none⟩=some (.slice A22007_6 ((rd_T46 l0 x5_1).f4).length c22007_6)∧w'.cell? ⟨(ad22001.add ((x5_1).toNat * 8)).block,(ad22001.add ((x5_1).toNat * 8)).off+7,none⟩=some (.int .i64 ((rd_T46 l0 x5_1).f5))) (ds:=[]) #[false,false,false,false,false,false,false,false,false] (by kernel_rfl) rfl rfl ⟨((HB.out.cell (World.block_lt_of_cell? w _ hw22007_0)).trans hw22007_0),((HB.out.cell (World.block_lt_of_cell? w _ hw22007_1)).trans hw22007_1),((HB.out.cell (World.block_lt_of_cell? w _ hw22007_2)).trans hw22007_2),((HB.out.cell (World.block_lt_of_cell? w _ hw22007_3)).trans hw22007_3),((HB.out.cell (World.block_lt_of_cell? w _ hw22007_4)).trans hw22007_4),((HB.out.cell (World.block_lt_of_cell? w _ hw22007_5)).trans hw22007_5),((HB.out.cell (World.block_lt_of_cell? w _ hw22007_6)).trans hw22007_6),((HB.out.cell (World.block_lt_of_cell? w _ hw22007_7)).trans hw22007_7)⟩ (fun hHeld=>?_);refine with_tabW laws_heldConstraintS.tab16 laws_heldConstraintS.bits16 (fun HT_ HW_=>?_)
     generalize w49.drew=w50 at HB HR22007_5 HR22007_6 hx22007_0 hx22007_1 hx22007_2 hx22007_3 hx22007_4 hx22007_5 hx22007_6 hx22007_7 hHeld ⊢
     refine zy 0 (some 51) HT_.out ?_
     refine zy 1 (some 52) HT_.out ?_
     refine zy 2 (some 53) HT_.out ?_
     refine zy 3 (some 54) HT_.out ?_
     refine zy 4 (some 55) HT_.out ?_
     refine zy 6 (some 57) HT_.out ?_
     refine ztk 5 (some 56) HT_.out HW_.out hHeld ?_
     refine zon 7 (some 58) HT_.out (fun K hK=>?_)
     refine goes_ Try.func32 (by kernel_rfl) rfl #[.int .i64 (wrap64 ((wrap64 ((wrap64 ((wrap64 (x1_1+1))+1))+1))+1))] (by rfl) rfl rfl za6 ?_
     with_reducible refine (laws_markText.calls k1 (wrap64 ((wrap64 ((wrap64 ((wrap64 (x1_1+1))+1))+1))+1)) t8 _ A11.out).mono ?_
     rintro e w51 ⟨rfl,hb⟩
     refine ⟨_,rfl,?_⟩
     replace HB:=yB HB hb
     (try clear hb)
     (try clear hb2)
     (try clear hk)
     (try clear hi)
     refine hK.out _ _ ⟨((HB.out.cell (World.block_lt_of_cell? w _ hw22007_0)).trans hw22007_0),((HB.out.cell (World.block_lt_of_cell? w _ hw22007_1)).trans hw22007_1),((HB.out.cell (World.block_lt_of_cell? w _ hw22007_2)).trans hw22007_2),((HB.out.cell (World.block_lt_of_cell? w _ hw22007_3)).trans hw22007_3),((HB.out.cell (World.block_lt_of_cell? w _ hw22007_4)).trans hw22007_4),((HB.out.cell (World.block_lt_of_cell? w _ hw22007_5)).trans hw22007_5),((HB.out.cell (World.block_lt_of_cell? w _ hw22007_6)).trans hw22007_6),((HB.out.cell (World.block_lt_of_cell? w _ hw22007_7)).trans hw22007_7)⟩ (fun hHeld=>?_)
     clear hK K
     refine zno (some 58) ?_
     refine zy 8 (some 59) HT_.out ?_
     refine done_ (done_of HT_.out (by kernel_rfl)) ?_
     try go_wp2
     go_ret
     exact ⟨za8,za5⟩
   · rw [if_neg c10] at H
     have c10b0:=zbn c10
     have c10b1:=zqt c10
     obtain rfl:=zi H
     have p22001:0≤(x5_1:Int):=of_decide_eq_true za7
     have q22001:x5_1 < (l0.length:Int):=of_decide_eq_true za7
     obtain ⟨ad22001,A22001_5,c22001_5,A22001_6,c22001_6,e22001,hx22001_0,hx22001_1,hx22001_2,hx22001_3,hx22001_4,hx22001_5,hx22001_6,hx22001_7,hl22001_5,hi22001_5,hl22001_6,hi22001_6⟩:=at_T46 HR0.out x5_1 p22001 q22001
     cases e22001
     (try (have E_:=zi (hx22001_5.symm.trans hv22001_5);injection E_ with e1_ e2_ e3_;(try subst e1_);(try subst e3_)))
     (try (have E_:=zi (hx22001_5.symm.trans hv22002_5);injection E_ with e1_ e2_ e3_;(try subst e1_);(try subst e3_)))
     (try (have E_:=zi (hx22001_5.symm.trans hv22004_5);injection E_ with e1_ e2_ e3_;(try subst e1_);(try subst e3_)))
     (try (have E_:=zi (hx22001_5.symm.trans hv22006_5);injection E_ with e1_ e2_ e3_;(try subst e1_);(try subst e3_)))
     (try (have E_:=zi (hx22001_5.symm.trans hv22007_5);injection E_ with e1_ e2_ e3_;(try subst e1_);(try subst e3_)))
     (try (have E_:=zi (hx22001_5.symm.trans hv22009_5);injection E_ with e1_ e2_ e3_;(try subst e1_);(try subst e3_)))
     have hv22001_5:=hx22001_5
     (try (have E_:=zi (hx22001_6.symm.trans hv22001_6);injection E_ with e1_ e2_ e3_;(try subst e1_);(try subst e3_)))
     (try (have E_:=zi (hx22001_6.symm.trans hv22002_6);injection E_ with e1_ e2_ e3_;(try subst e1_);(try subst e3_)))
     (try (have E_:=zi (hx22001_6.symm.trans hv22004_6);injection E_ with e1_ e2_ e3_;(try subst e1_);(try subst e3_)))
     (try (have E_:=zi (hx22001_6.symm.trans hv22006_6);injection E_ with e1_ e2_ e3_;(try subst e1_);(try subst e3_)))
     (try (have E_:=zi (hx22001_6.symm.trans hv22007_6);injection E_ with e1_ e2_ e3_;(try subst e1_);(try subst e3_)))
     (try (have E_:=zi (hx22001_6.symm.trans hv22009_6);injection E_ with e1_ e2_ e3_;(try subst e1_);(try subst e3_)))
     have hv22001_6:=hx22001_6
     replace hx22001_0:=zx HB.out hx22001_0
     replace hx22001_1:=zx HB.out hx22001_1
     replace hx22001_2:=zx HB.out hx22001_2
     replace hx22001_3:=zx HB.out hx22001_3
     replace hx22001_4:=zx HB.out hx22001_4
     replace hx22001_5:=zx HB.out hx22001_5
     replace hx22001_6:=zx HB.out hx22001_6
     replace hx22001_7:=zx HB.out hx22001_7
     have HR22001_5:=zk hi22001_5
     have HC22001_5:=zk hl22001_5
     clear hi22001_5 hl22001_5
     have HR22001_6:=zk hi22001_6
     have HC22001_6:=zk hl22001_6
     clear hi22001_6 hl22001_6
     replace p22001:=eq_true p22001
     replace q22001:=eq_true q22001
     try go_wp2
     replace HB:=zk (below_drew1 HB.out)
     have p22002:0≤(x5_1:Int):=of_decide_eq_true za7
     have q22002:x5_1 < (l0.length:Int):=of_decide_eq_true za7
     obtain ⟨ad22002,A22002_5,c22002_5,A22002_6,c22002_6,e22002,hx22002_0,hx22002_1,hx22002_2,hx22002_3,hx22002_4,hx22002_5,hx22002_6,hx22002_7,hl22002_5,hi22002_5,hl22002_6,hi22002_6⟩:=at_T46 HR0.out x5_1 p22002 q22002
     have hw22002_7:=hx22002_7
     have hw22002_6:=hx22002_6
     have hw22002_5:=hx22002_5
     have hw22002_4:=hx22002_4
     have hw22002_3:=hx22002_3
     have hw22002_2:=hx22002_2
     have hw22002_1:=hx22002_1
     have hw22002_0:=hx22002_0
     obtain rfl:ad22001=ad22002:=(by injection e22002)
     (try (have E_:=zi (hx22002_5.symm.trans hv22001_5);injection E_ with e1_ e2_ e3_;(try subst e1_);(try subst e3_)))
     (try (have E_:=zi (hx22002_5.symm.trans hv22002_5);injection E_ with e1_ e2_ e3_;(try subst e1_);(try subst e3_)))
     (try (have E_:=zi (hx22002_5.symm.trans hv22004_5);injection E_ with e1_ e2_ e3_;(try subst e1_);(try subst e3_)))
     (try (have E_:=zi (hx22002_5.symm.trans hv22006_5);injection E_ with e1_ e2_ e3_;(try subst e1_);(try subst e3_)))
     (try (have E_:=zi (hx22002_5.symm.trans hv22007_5);injection E_ with e1_ e2_ e3_;(try subst e1_);(try subst e3_)))
     (try (have E_:=zi (hx22002_5.symm.trans hv22009_5);injection E_ with e1_ e2_ e3_;(try subst e1_);(try subst e3_)))
     have hv22002_5:=hx22002_5
     (try (have E_:=zi (hx22002_6.symm.trans hv22001_6);injection E_ with e1_ e2_ e3_;(try subst e1_);(try subst e3_)))
     (try (have E_:=zi (hx22002_6.symm.trans hv22002_6);injection E_ with e1_ e2_ e3_;(try subst e1_);(try subst e3_)))
     (try (have E_:=zi (hx22002_6.symm.trans hv22004_6);injection E_ with e1_ e2_ e3_;(try subst e1_);(try subst e3_)))
     (try (have E_:=zi (hx22002_6.symm.trans hv22006_6);injection E_ with e1_ e2_ e3_;(try subst e1_);(try subst e3_)))
     (try (have E_:=zi (hx22002_6.symm.trans hv22007_6);injection E_ with e1_ e2_ e3_;(try subst e1_);(try subst e3_)))
     (try (have E_:=zi (hx22002_6.symm.trans hv22009_6);injection E_ with e1_ e2_ e3_;(try subst e1_);(try subst e3_)))
     have hv22002_6:=hx22002_6
     replace hx22002_0:=zx HB.out hx22002_0
     replace hx22002_1:=zx HB.out hx22002_1
     replace hx22002_2:=zx HB.out hx22002_2
     replace hx22002_3:=zx HB.out hx22002_3
     replace hx22002_4:=zx HB.out hx22002_4
     replace hx22002_5:=zx HB.out hx22002_5
     replace hx22002_6:=zx HB.out hx22002_6
     replace hx22002_7:=zx HB.out hx22002_7
     have HR22002_5:=zk hi22002_5
     have HC22002_5:=zk hl22002_5
     clear hi22002_5 hl22002_5
     have HR22002_6:=zk hi22002_6
     have HC22002_6:=zk hl22002_6
     clear hi22002_6 hl22002_6
     replace p22002:=eq_true p22002
     replace q22002:=eq_true q22002
     refine start_ (n:=8) (S:=fun w'=>w'.cell? (ad22001.add ((x5_1).toNat * 8))=some (.int .i64 ((rd_T46 l0 x5_1).f0))∧w'.cell? ⟨(ad22001.add ((x5_1).toNat * 8)).block,(ad22001.add ((x5_1).toNat * 8)).off+1,none⟩=some (.string ((rd_T46 l0 x5_1).f1))∧w'.cell? ⟨(ad22001.add ((x5_1).toNat * 8)).block,(ad22001.add ((x5_1).toNat * 8)).off+2,none⟩=some (.string ((rd_T46 l0 x5_1).f2))∧w'.cell? ⟨(ad22001.add ((x5_1).toNat * 8)).block,(ad22001.add ((x5_1).toNat * 8)).off+3,none⟩=some (.int .i64 ((rd_T46 l0 x5_1).f3.f0))∧w'.cell? ⟨(ad22001.add ((x5_1).toNat * 8)).block,(ad22001.add ((x5_1).toNat * 8)).off+4,none⟩=some (.string ((rd_T46 l0 x5_1).f3.f1))∧w'.cell? ⟨(ad22001.add ((x5_1).toNat * 8)).block,(ad22001.add ((x5_1).toNat * 8)).off+5,none⟩=some (.slice A22002_5 ((rd_T46 l0 x5_1).f3.f2).length c22002_5)∧w'.cell? ⟨(ad22001.add ((x5_1).toNat * 8)).block,(ad22001.add ((x5_1).toNat * 8)).off+6,none⟩=some (.slice A22002_6 ((rd_T46 l0 x5_1).f4).length c22002_6)∧w'.cell? ⟨(ad22001.add ((x5_1).toNat * 8)).block,(ad22001.add ((x5_1).toNat * 8)).off+7,none⟩=some (.int .i64 ((rd_T46 l0 x5_1).f5))) (ds:=[]) #[false,false,false,false,false,false,false,false] (by kernel_rfl) rfl rfl ⟨((HB.out.cell (World.block_lt_of_cell? w _ hw22002_0)).trans hw22002_0),((HB.out.cell (World.block_lt_of_cell? w _ hw22002_1)).trans hw22002_1),((HB.out.cell (World.block_lt_of_cell? w _ hw22002_2)).trans hw22002_2),((HB.out.cell (World.block_lt_of_cell? w _ hw22002_3)).trans hw22002_3),((HB.out.cell (World.block_lt_of_cell? w _ hw22002_4)).trans hw22002_4),((HB.out.cell (World.block_lt_of_cell? w _ hw22002_5)).trans hw22002_5),((HB.out.cell (World.block_lt_of_cell? w _ hw22002_6)).trans hw22002_6),((HB.out.cell (World.block_lt_of_cell? w _ hw22002_7)).trans hw22002_7)⟩ (fun hHeld=>?_);refine with_tabW laws_heldConstraintS.tab7 laws_heldConstraintS.bits7 (fun HT_ HW_=>?_)
     generalize wr.drew=w52 at HB HR22002_5 HR22002_6 hx22002_0 hx22002_1 hx22002_2 hx22002_3 hx22002_4 hx22002_5 hx22002_6 hx22002_7 hHeld ⊢
     refine zy 0 (some 21) HT_.out ?_
     refine zy 1 (some 22) HT_.out ?_
     refine zy 2 (some 23) HT_.out ?_
     refine zy 3 (some 24) HT_.out ?_
     refine zy 5 (some 26) HT_.out ?_
     refine ztk 4 (some 25) HT_.out HW_.out hHeld ?_
     refine zon 6 (some 27) HT_.out (fun K hK=>?_)
     refine goes_ Try.func32 (by kernel_rfl) rfl #[.int .i64 (wrap64 (x1_1+1))] (by rfl) rfl rfl za6 ?_
     with_reducible refine (laws_markText.calls k1 (wrap64 (x1_1+1)) t3 _ A6.out).mono ?_
     rintro e w53 ⟨rfl,hb⟩
     refine ⟨_,rfl,?_⟩
     replace HB:=yB HB hb
     (try clear hb)
     (try clear hb2)
     (try clear hk)
     (try clear hi)
     refine hK.out _ _ ⟨((HB.out.cell (World.block_lt_of_cell? w _ hw22002_0)).trans hw22002_0),((HB.out.cell (World.block_lt_of_cell? w _ hw22002_1)).trans hw22002_1),((HB.out.cell (World.block_lt_of_cell? w _ hw22002_2)).trans hw22002_2),((HB.out.cell (World.block_lt_of_cell? w _ hw22002_3)).trans hw22002_3),((HB.out.cell (World.block_lt_of_cell? w _ hw22002_4)).trans hw22002_4),((HB.out.cell (World.block_lt_of_cell? w _ hw22002_5)).trans hw22002_5),((HB.out.cell (World.block_lt_of_cell? w _ hw22002_6)).trans hw22002_6),((HB.out.cell (World.block_lt_of_cell? w _ hw22002_7)).trans hw22002_7)⟩ (fun hHeld=>?_)
     clear hK K
     refine zno (some 27) ?_
     refine zy 7 (some 28) HT_.out ?_
     refine done_ (done_of HT_.out (by kernel_rfl)) ?_
     try go_wp2
     replace HB:=zk (below_drew1 HB.out)
     have p22004:0≤(x5_1:Int):=of_decide_eq_true za7
     have q22004:x5_1 < (l0.length:Int):=of_decide_eq_true za7
     obtain ⟨ad22004,A22004_5,c22004_5,A22004_6,c22004_6,e22004,hx22004_0,hx22004_1,hx22004_2,hx22004_3,hx22004_4,hx22004_5,hx22004_6,hx22004_7,hl22004_5,hi22004_5,hl22004_6,hi22004_6⟩:=at_T46 HR0.out x5_1 p22004 q22004
     have hw22004_7:=hx22004_7
     have hw22004_6:=hx22004_6
     have hw22004_5:=hx22004_5
     have hw22004_4:=hx22004_4
     have hw22004_3:=hx22004_3
     have hw22004_2:=hx22004_2
     have hw22004_1:=hx22004_1
     have hw22004_0:=hx22004_0
     obtain rfl:ad22001=ad22004:=(by injection e22004)
     (try (have E_:=zi (hx22004_5.symm.trans hv22001_5);injection E_ with e1_ e2_ e3_;(try subst e1_);(try subst e3_)))
     (try (have E_:=zi (hx22004_5.symm.trans hv22002_5);injection E_ with e1_ e2_ e3_;(try subst e1_);(try subst e3_)))
     (try (have E_:=zi (hx22004_5.symm.trans hv22004_5);injection E_ with e1_ e2_ e3_;(try subst e1_);(try subst e3_)))
     (try (have E_:=zi (hx22004_5.symm.trans hv22006_5);injection E_ with e1_ e2_ e3_;(try subst e1_);(try subst e3_)))
     (try (have E_:=zi (hx22004_5.symm.trans hv22007_5);injection E_ with e1_ e2_ e3_;(try subst e1_);(try subst e3_)))
     (try (have E_:=zi (hx22004_5.symm.trans hv22009_5);injection E_ with e1_ e2_ e3_;(try subst e1_);(try subst e3_)))
     have hv22004_5:=hx22004_5
     (try (have E_:=zi (hx22004_6.symm.trans hv22001_6);injection E_ with e1_ e2_ e3_;(try subst e1_);(try subst e3_)))
     (try (have E_:=zi (hx22004_6.symm.trans hv22002_6);injection E_ with e1_ e2_ e3_;(try subst e1_);(try subst e3_)))
     (try (have E_:=zi (hx22004_6.symm.trans hv22004_6);injection E_ with e1_ e2_ e3_;(try subst e1_);(try subst e3_)))
     (try (have E_:=zi (hx22004_6.symm.trans hv22006_6);injection E_ with e1_ e2_ e3_;(try subst e1_);(try subst e3_)))
     (try (have E_:=zi (hx22004_6.symm.trans hv22007_6);injection E_ with e1_ e2_ e3_;(try subst e1_);(try subst e3_)))
     (try (have E_:=zi (hx22004_6.symm.trans hv22009_6);injection E_ with e1_ e2_ e3_;(try subst e1_);(try subst e3_)))
     have hv22004_6:=hx22004_6
     replace hx22004_0:=zx HB.out hx22004_0
     replace hx22004_1:=zx HB.out hx22004_1
     replace hx22004_2:=zx HB.out hx22004_2
     replace hx22004_3:=zx HB.out hx22004_3
     replace hx22004_4:=zx HB.out hx22004_4
     replace hx22004_5:=zx HB.out hx22004_5
     replace hx22004_6:=zx HB.out hx22004_6
     replace hx22004_7:=zx HB.out hx22004_7
     have HR22004_5:=zk hi22004_5
     have HC22004_5:=zk hl22004_5
     clear hi22004_5 hl22004_5
     have HR22004_6:=zk hi22004_6
     have HC22004_6:=zk hl22004_6
     clear hi22004_6 hl22004_6
     replace p22004:=eq_true p22004
     replace q22004:=eq_true q22004
     refine start_ (n:=8) (S:=fun w'=>w'.cell? (ad22001.add ((x5_1).toNat * 8))=some (.int .i64 ((rd_T46 l0 x5_1).f0))∧w'.cell? ⟨(ad22001.add ((x5_1).toNat * 8)).block,(ad22001.add ((x5_1).toNat * 8)).off+1,none⟩=some (.string ((rd_T46 l0 x5_1).f1))∧w'.cell? ⟨(ad22001.add ((x5_1).toNat * 8)).block,(ad22001.add ((x5_1).toNat * 8)).off+2,none⟩=some (.string ((rd_T46 l0 x5_1).f2))∧w'.cell? ⟨(ad22001.add ((x5_1).toNat * 8)).block,(ad22001.add ((x5_1).toNat * 8)).off+3,none⟩=some (.int .i64 ((rd_T46 l0 x5_1).f3.f0))∧w'.cell? ⟨(ad22001.add ((x5_1).toNat * 8)).block,(ad22001.add ((x5_1).toNat * 8)).off+4,none⟩=some (.string ((rd_T46 l0 x5_1).f3.f1))∧w'.cell? ⟨(ad22001.add ((x5_1).toNat * 8)).block,(ad22001.add ((x5_1).toNat * 8)).off+5,none⟩=some (.slice A22004_5 ((rd_T46 l0 x5_1).f3.f2).length c22004_5)∧w'.cell? ⟨(ad22001.add ((x5_1).toNat * 8)).block,(ad22001.add ((x5_1).toNat * 8)).off+6,none⟩=some (.slice A22004_6 ((rd_T46 l0 x5_1).f4).length c22004_6)∧w'.cell? ⟨(ad22001.add ((x5_1).toNat * 8)).block,(ad22001.add ((x5_1).toNat * 8)).off+7,none⟩=some (.int .i64 ((rd_T46 l0 x5_1).f5))) (ds:=[]) #[false,false,false,false,false,false,false,false] (by kernel_rfl) rfl rfl ⟨((HB.out.cell (World.block_lt_of_cell? w _ hw22004_0)).trans hw22004_0),((HB.out.cell (World.block_lt_of_cell? w _ hw22004_1)).trans hw22004_1),((HB.out.cell (World.block_lt_of_cell? w _ hw22004_2)).trans hw22004_2),((HB.out.cell (World.block_lt_of_cell? w _ hw22004_3)).trans hw22004_3),((HB.out.cell (World.block_lt_of_cell? w _ hw22004_4)).trans hw22004_4),((HB.out.cell (World.block_lt_of_cell? w _ hw22004_5)).trans hw22004_5),((HB.out.cell (World.block_lt_of_cell? w _ hw22004_6)).trans hw22004_6),((HB.out.cell (World.block_lt_of_cell? w _ hw22004_7)).trans hw22004_7)⟩ (fun hHeld=>?_);refine with_tabW laws_heldConstraintS.tab10 laws_heldConstraintS.bits10 (fun HT_ HW_=>?_)
     generalize w53.drew=w54 at HB HR22004_5 HR22004_6 hx22004_0 hx22004_1 hx22004_2 hx22004_3 hx22004_4 hx22004_5 hx22004_6 hx22004_7 hHeld ⊢
     refine zy 0 (some 31) HT_.out ?_
     refine zy 1 (some 32) HT_.out ?_
     refine zy 2 (some 33) HT_.out ?_
     refine zy 3 (some 34) HT_.out ?_
     refine zy 5 (some 36) HT_.out ?_
     refine ztk 4 (some 35) HT_.out HW_.out hHeld ?_
     refine zon 6 (some 37) HT_.out (fun K hK=>?_)
     refine goes_ Try.func32 (by kernel_rfl) rfl #[.int .i64 (wrap64 ((wrap64 (x1_1+1))+1))] (by rfl) rfl rfl za6 ?_
     with_reducible refine (laws_markText.calls k1 (wrap64 ((wrap64 (x1_1+1))+1)) t5 _ A8.out).mono ?_
     rintro e w55 ⟨rfl,hb⟩
     refine ⟨_,rfl,?_⟩
     replace HB:=yB HB hb
     (try clear hb)
     (try clear hb2)
     (try clear hk)
     (try clear hi)
     refine hK.out _ _ ⟨((HB.out.cell (World.block_lt_of_cell? w _ hw22004_0)).trans hw22004_0),((HB.out.cell (World.block_lt_of_cell? w _ hw22004_1)).trans hw22004_1),((HB.out.cell (World.block_lt_of_cell? w _ hw22004_2)).trans hw22004_2),((HB.out.cell (World.block_lt_of_cell? w _ hw22004_3)).trans hw22004_3),((HB.out.cell (World.block_lt_of_cell? w _ hw22004_4)).trans hw22004_4),((HB.out.cell (World.block_lt_of_cell? w _ hw22004_5)).trans hw22004_5),((HB.out.cell (World.block_lt_of_cell? w _ hw22004_6)).trans hw22004_6),((HB.out.cell (World.block_lt_of_cell? w _ hw22004_7)).trans hw22004_7)⟩ (fun hHeld=>?_)
     clear hK K
     refine zno (some 37) ?_
     refine zy 7 (some 38) HT_.out ?_
     refine done_ (done_of HT_.out (by kernel_rfl)) ?_
     have p22006:0≤(x5_1:Int):=of_decide_eq_true za7
     have q22006:x5_1 < (l0.length:Int):=of_decide_eq_true za7
     obtain ⟨ad22006,A22006_5,c22006_5,A22006_6,c22006_6,e22006,hx22006_0,hx22006_1,hx22006_2,hx22006_3,hx22006_4,hx22006_5,hx22006_6,hx22006_7,hl22006_5,hi22006_5,hl22006_6,hi22006_6⟩:=at_T46 HR0.out x5_1 p22006 q22006
     obtain rfl:ad22001=ad22006:=(by injection e22006)
     (try (have E_:=zi (hx22006_5.symm.trans hv22001_5);injection E_ with e1_ e2_ e3_;(try subst e1_);(try subst e3_)))
     (try (have E_:=zi (hx22006_5.symm.trans hv22002_5);injection E_ with e1_ e2_ e3_;(try subst e1_);(try subst e3_)))
     (try (have E_:=zi (hx22006_5.symm.trans hv22004_5);injection E_ with e1_ e2_ e3_;(try subst e1_);(try subst e3_)))
     (try (have E_:=zi (hx22006_5.symm.trans hv22006_5);injection E_ with e1_ e2_ e3_;(try subst e1_);(try subst e3_)))
     (try (have E_:=zi (hx22006_5.symm.trans hv22007_5);injection E_ with e1_ e2_ e3_;(try subst e1_);(try subst e3_)))
     (try (have E_:=zi (hx22006_5.symm.trans hv22009_5);injection E_ with e1_ e2_ e3_;(try subst e1_);(try subst e3_)))
     have hv22006_5:=hx22006_5
     (try (have E_:=zi (hx22006_6.symm.trans hv22001_6);injection E_ with e1_ e2_ e3_;(try subst e1_);(try subst e3_)))
     (try (have E_:=zi (hx22006_6.symm.trans hv22002_6);injection E_ with e1_ e2_ e3_;(try subst e1_);(try subst e3_)))
     (try (have E_:=zi (hx22006_6.symm.trans hv22004_6);injection E_ with e1_ e2_ e3_;(try subst e1_);(try subst e3_)))
     (try (have E_:=zi (hx22006_6.symm.trans hv22006_6);injection E_ with e1_ e2_ e3_;(try subst e1_);(try subst e3_)))
     (try (have E_:=zi (hx22006_6.symm.trans hv22007_6);injection E_ with e1_ e2_ e3_;(try subst e1_);(try subst e3_)))
     (try (have E_:=zi (hx22006_6.symm.trans hv22009_6);injection E_ with e1_ e2_ e3_;(try subst e1_);(try subst e3_)))
     have hv22006_6:=hx22006_6
     replace hx22006_0:=zx HB.out hx22006_0
     replace hx22006_1:=zx HB.out hx22006_1
     replace hx22006_2:=zx HB.out hx22006_2
     replace hx22006_3:=zx HB.out hx22006_3
     replace hx22006_4:=zx HB.out hx22006_4
     replace hx22006_5:=zx HB.out hx22006_5
     replace hx22006_6:=zx HB.out hx22006_6
     replace hx22006_7:=zx HB.out hx22006_7
     have HR22006_5:=zk hi22006_5
     have HC22006_5:=zk hl22006_5
     clear hi22006_5 hl22006_5
     have HR22006_6:=zk hi22006_6
     have HC22006_6:=zk hl22006_6
     clear hi22006_6 hl22006_6
     replace p22006:=eq_true p22006
     replace q22006:=eq_true q22006
     try go_wp2
     go_ret
     exact ⟨za8,za5⟩
   · rw [if_neg c9] at H
     have c9b0:=zbn c9
     have c9b1:=zqt c9
     obtain rfl:=zi H
     have p22001:0≤(x5_1:Int):=of_decide_eq_true za7
     have q22001:x5_1 < (l0.length:Int):=of_decide_eq_true za7
     obtain ⟨ad22001,A22001_5,c22001_5,A22001_6,c22001_6,e22001,hx22001_0,hx22001_1,hx22001_2,hx22001_3,hx22001_4,hx22001_5,hx22001_6,hx22001_7,hl22001_5,hi22001_5,hl22001_6,hi22001_6⟩:=at_T46 HR0.out x5_1 p22001 q22001
     cases e22001
     (try (have E_:=zi (hx22001_5.symm.trans hv22001_5);injection E_ with e1_ e2_ e3_;(try subst e1_);(try subst e3_)))
     (try (have E_:=zi (hx22001_5.symm.trans hv22002_5);injection E_ with e1_ e2_ e3_;(try subst e1_);(try subst e3_)))
     (try (have E_:=zi (hx22001_5.symm.trans hv22004_5);injection E_ with e1_ e2_ e3_;(try subst e1_);(try subst e3_)))
     (try (have E_:=zi (hx22001_5.symm.trans hv22006_5);injection E_ with e1_ e2_ e3_;(try subst e1_);(try subst e3_)))
     (try (have E_:=zi (hx22001_5.symm.trans hv22007_5);injection E_ with e1_ e2_ e3_;(try subst e1_);(try subst e3_)))
     (try (have E_:=zi (hx22001_5.symm.trans hv22009_5);injection E_ with e1_ e2_ e3_;(try subst e1_);(try subst e3_)))
     have hv22001_5:=hx22001_5
     (try (have E_:=zi (hx22001_6.symm.trans hv22001_6);injection E_ with e1_ e2_ e3_;(try subst e1_);(try subst e3_)))
     (try (have E_:=zi (hx22001_6.symm.trans hv22002_6);injection E_ with e1_ e2_ e3_;(try subst e1_);(try subst e3_)))
     (try (have E_:=zi (hx22001_6.symm.trans hv22004_6);injection E_ with e1_ e2_ e3_;(try subst e1_);(try subst e3_)))
     (try (have E_:=zi (hx22001_6.symm.trans hv22006_6);injection E_ with e1_ e2_ e3_;(try subst e1_);(try subst e3_)))
     (try (have E_:=zi (hx22001_6.symm.trans hv22007_6);injection E_ with e1_ e2_ e3_;(try subst e1_);(try subst e3_)))
     (try (have E_:=zi (hx22001_6.symm.trans hv22009_6);injection E_ with e1_ e2_ e3_;(try subst e1_);(try subst e3_)))
     have hv22001_6:=hx22001_6
     replace hx22001_0:=zx HB.out hx22001_0
     replace hx22001_1:=zx HB.out hx22001_1
     replace hx22001_2:=zx HB.out hx22001_2
     replace hx22001_3:=zx HB.out hx22001_3
     replace hx22001_4:=zx HB.out hx22001_4
     replace hx22001_5:=zx HB.out hx22001_5
     replace hx22001_6:=zx HB.out hx22001_6
     replace hx22001_7:=zx HB.out hx22001_7
     have HR22001_5:=zk hi22001_5
     have HC22001_5:=zk hl22001_5
     clear hi22001_5 hl22001_5
     have HR22001_6:=zk hi22001_6
     have HC22001_6:=zk hl22001_6
     clear hi22001_6 hl22001_6
     replace p22001:=eq_true p22001
     replace q22001:=eq_true q22001
     try go_wp2
     replace HB:=zk (below_drew1 HB.out)
     have p22002:0≤(x5_1:Int):=of_decide_eq_true za7
     have q22002:x5_1 < (l0.length:Int):=of_decide_eq_true za7
     obtain ⟨ad22002,A22002_5,c22002_5,A22002_6,c22002_6,e22002,hx22002_0,hx22002_1,hx22002_2,hx22002_3,hx22002_4,hx22002_5,hx22002_6,hx22002_7,hl22002_5,hi22002_5,hl22002_6,hi22002_6⟩:=at_T46 HR0.out x5_1 p22002 q22002
     have hw22002_7:=hx22002_7
     have hw22002_6:=hx22002_6
     have hw22002_5:=hx22002_5
     have hw22002_4:=hx22002_4
     have hw22002_3:=hx22002_3
     have hw22002_2:=hx22002_2
     have hw22002_1:=hx22002_1
     have hw22002_0:=hx22002_0
     obtain rfl:ad22001=ad22002:=(by injection e22002)
     (try (have E_:=zi (hx22002_5.symm.trans hv22001_5);injection E_ with e1_ e2_ e3_;(try subst e1_);(try subst e3_)))
     (try (have E_:=zi (hx22002_5.symm.trans hv22002_5);injection E_ with e1_ e2_ e3_;(try subst e1_);(try subst e3_)))
     (try (have E_:=zi (hx22002_5.symm.trans hv22004_5);injection E_ with e1_ e2_ e3_;(try subst e1_);(try subst e3_)))
     (try (have E_:=zi (hx22002_5.symm.trans hv22006_5);injection E_ with e1_ e2_ e3_;(try subst e1_);(try subst e3_)))
     (try (have E_:=zi (hx22002_5.symm.trans hv22007_5);injection E_ with e1_ e2_ e3_;(try subst e1_);(try subst e3_)))
     (try (have E_:=zi (hx22002_5.symm.trans hv22009_5);injection E_ with e1_ e2_ e3_;(try subst e1_);(try subst e3_)))
     have hv22002_5:=hx22002_5
     (try (have E_:=zi (hx22002_6.symm.trans hv22001_6);injection E_ with e1_ e2_ e3_;(try subst e1_);(try subst e3_)))
     (try (have E_:=zi (hx22002_6.symm.trans hv22002_6);injection E_ with e1_ e2_ e3_;(try subst e1_);(try subst e3_)))
     (try (have E_:=zi (hx22002_6.symm.trans hv22004_6);injection E_ with e1_ e2_ e3_;(try subst e1_);(try subst e3_)))
     (try (have E_:=zi (hx22002_6.symm.trans hv22006_6);injection E_ with e1_ e2_ e3_;(try subst e1_);(try subst e3_)))
     (try (have E_:=zi (hx22002_6.symm.trans hv22007_6);injection E_ with e1_ e2_ e3_;(try subst e1_);(try subst e3_)))
     (try (have E_:=zi (hx22002_6.symm.trans hv22009_6);injection E_ with e1_ e2_ e3_;(try subst e1_);(try subst e3_)))
     have hv22002_6:=hx22002_6
     replace hx22002_0:=zx HB.out hx22002_0
     replace hx22002_1:=zx HB.out hx22002_1
     replace hx22002_2:=zx HB.out hx22002_2
     replace hx22002_3:=zx HB.out hx22002_3
     replace hx22002_4:=zx HB.out hx22002_4
     replace hx22002_5:=zx HB.out hx22002_5
     replace hx22002_6:=zx HB.out hx22002_6
     replace hx22002_7:=zx HB.out hx22002_7
     have HR22002_5:=zk hi22002_5
     have HC22002_5:=zk hl22002_5
     clear hi22002_5 hl22002_5
     have HR22002_6:=zk hi22002_6
     have HC22002_6:=zk hl22002_6
     clear hi22002_6 hl22002_6
     replace p22002:=eq_true p22002
     replace q22002:=eq_true q22002
     refine start_ (n:=8) (S:=fun w'=>w'.cell? (ad22001.add ((x5_1).toNat * 8))=some (.int .i64 ((rd_T46 l0 x5_1).f0))∧w'.cell? ⟨(ad22001.add ((x5_1).toNat * 8)).block,(ad22001.add ((x5_1).toNat * 8)).off+1,none⟩=some (.string ((rd_T46 l0 x5_1).f1))∧w'.cell? ⟨(ad22001.add ((x5_1).toNat * 8)).block,(ad22001.add ((x5_1).toNat * 8)).off+2,none⟩=some (.string ((rd_T46 l0 x5_1).f2))∧w'.cell? ⟨(ad22001.add ((x5_1).toNat * 8)).block,(ad22001.add ((x5_1).toNat * 8)).off+3,none⟩=some (.int .i64 ((rd_T46 l0 x5_1).f3.f0))∧w'.cell? ⟨(ad22001.add ((x5_1).toNat * 8)).block,(ad22001.add ((x5_1).toNat * 8)).off+4,none⟩=some (.string ((rd_T46 l0 x5_1).f3.f1))∧w'.cell? ⟨(ad22001.add ((x5_1).toNat * 8)).block,(ad22001.add ((x5_1).toNat * 8)).off+5,none⟩=some (.slice A22002_5 ((rd_T46 l0 x5_1).f3.f2).length c22002_5)∧w'.cell? ⟨(ad22001.add ((x5_1).toNat * 8)).block,(ad22001.add ((x5_1).toNat * 8)).off+6,none⟩=some (.slice A22002_6 ((rd_T46 l0 x5_1).f4).length c22002_6)∧w'.cell? ⟨(ad22001.add ((x5_1).toNat * 8)).block,(ad22001.add ((x5_1).toNat * 8)).off+7,none⟩=some (.int .i64 ((rd_T46 l0 x5_1).f5))) (ds:=[]) #[false,false,false,false,false,false,false,false] (by kernel_rfl) rfl rfl ⟨((HB.out.cell (World.block_lt_of_cell? w _ hw22002_0)).trans hw22002_0),((HB.out.cell (World.block_lt_of_cell? w _ hw22002_1)).trans hw22002_1),((HB.out.cell (World.block_lt_of_cell? w _ hw22002_2)).trans hw22002_2),((HB.out.cell (World.block_lt_of_cell? w _ hw22002_3)).trans hw22002_3),((HB.out.cell (World.block_lt_of_cell? w _ hw22002_4)).trans hw22002_4),((HB.out.cell (World.block_lt_of_cell? w _ hw22002_5)).trans hw22002_5),((HB.out.cell (World.block_lt_of_cell? w _ hw22002_6)).trans hw22002_6),((HB.out.cell (World.block_lt_of_cell? w _ hw22002_7)).trans hw22002_7)⟩ (fun hHeld=>?_);refine with_tabW laws_heldConstraintS.tab7 laws_heldConstraintS.bits7 (fun HT_ HW_=>?_)
     generalize wr.drew=w56 at HB HR22002_5 HR22002_6 hx22002_0 hx22002_1 hx22002_2 hx22002_3 hx22002_4 hx22002_5 hx22002_6 hx22002_7 hHeld ⊢
     refine zy 0 (some 21) HT_.out ?_
     refine zy 1 (some 22) HT_.out ?_
     refine zy 2 (some 23) HT_.out ?_
     refine zy 3 (some 24) HT_.out ?_
     refine zy 5 (some 26) HT_.out ?_
     refine ztk 4 (some 25) HT_.out HW_.out hHeld ?_
     refine zon 6 (some 27) HT_.out (fun K hK=>?_)
     refine goes_ Try.func32 (by kernel_rfl) rfl #[.int .i64 (wrap64 (x1_1+1))] (by rfl) rfl rfl za6 ?_
     with_reducible refine (laws_markText.calls k1 (wrap64 (x1_1+1)) t3 _ A6.out).mono ?_
     rintro e w57 ⟨rfl,hb⟩
     refine ⟨_,rfl,?_⟩
     replace HB:=yB HB hb
     (try clear hb)
     (try clear hb2)
     (try clear hk)
     (try clear hi)
     refine hK.out _ _ ⟨((HB.out.cell (World.block_lt_of_cell? w _ hw22002_0)).trans hw22002_0),((HB.out.cell (World.block_lt_of_cell? w _ hw22002_1)).trans hw22002_1),((HB.out.cell (World.block_lt_of_cell? w _ hw22002_2)).trans hw22002_2),((HB.out.cell (World.block_lt_of_cell? w _ hw22002_3)).trans hw22002_3),((HB.out.cell (World.block_lt_of_cell? w _ hw22002_4)).trans hw22002_4),((HB.out.cell (World.block_lt_of_cell? w _ hw22002_5)).trans hw22002_5),((HB.out.cell (World.block_lt_of_cell? w _ hw22002_6)).trans hw22002_6),((HB.out.cell (World.block_lt_of_cell? w _ hw22002_7)).trans hw22002_7)⟩ (fun hHeld=>?_)
     clear hK K
     refine zno (some 27) ?_
     refine zy 7 (some 28) HT_.out ?_
     refine done_ (done_of HT_.out (by kernel_rfl)) ?_
     try go_wp2
     replace HB:=zk (below_drew1 HB.out)
     have p22004:0≤(x5_1:Int):=of_decide_eq_true za7
     have q22004:x5_1 < (l0.length:Int):=of_decide_eq_true za7
     obtain ⟨ad22004,A22004_5,c22004_5,A22004_6,c22004_6,e22004,hx22004_0,hx22004_1,hx22004_2,hx22004_3,hx22004_4,hx22004_5,hx22004_6,hx22004_7,hl22004_5,hi22004_5,hl22004_6,hi22004_6⟩:=at_T46 HR0.out x5_1 p22004 q22004
     have hw22004_7:=hx22004_7
     have hw22004_6:=hx22004_6
     have hw22004_5:=hx22004_5
     have hw22004_4:=hx22004_4
     have hw22004_3:=hx22004_3
     have hw22004_2:=hx22004_2
     have hw22004_1:=hx22004_1
     have hw22004_0:=hx22004_0
     obtain rfl:ad22001=ad22004:=(by injection e22004)
     (try (have E_:=zi (hx22004_5.symm.trans hv22001_5);injection E_ with e1_ e2_ e3_;(try subst e1_);(try subst e3_)))
     (try (have E_:=zi (hx22004_5.symm.trans hv22002_5);injection E_ with e1_ e2_ e3_;(try subst e1_);(try subst e3_)))
     (try (have E_:=zi (hx22004_5.symm.trans hv22004_5);injection E_ with e1_ e2_ e3_;(try subst e1_);(try subst e3_)))
     (try (have E_:=zi (hx22004_5.symm.trans hv22006_5);injection E_ with e1_ e2_ e3_;(try subst e1_);(try subst e3_)))
     (try (have E_:=zi (hx22004_5.symm.trans hv22007_5);injection E_ with e1_ e2_ e3_;(try subst e1_);(try subst e3_)))
     (try (have E_:=zi (hx22004_5.symm.trans hv22009_5);injection E_ with e1_ e2_ e3_;(try subst e1_);(try subst e3_)))
     have hv22004_5:=hx22004_5
     (try (have E_:=zi (hx22004_6.symm.trans hv22001_6);injection E_ with e1_ e2_ e3_;(try subst e1_);(try subst e3_)))
     (try (have E_:=zi (hx22004_6.symm.trans hv22002_6);injection E_ with e1_ e2_ e3_;(try subst e1_);(try subst e3_)))
     (try (have E_:=zi (hx22004_6.symm.trans hv22004_6);injection E_ with e1_ e2_ e3_;(try subst e1_);(try subst e3_)))
     (try (have E_:=zi (hx22004_6.symm.trans hv22006_6);injection E_ with e1_ e2_ e3_;(try subst e1_);(try subst e3_)))
     (try (have E_:=zi (hx22004_6.symm.trans hv22007_6);injection E_ with e1_ e2_ e3_;(try subst e1_);(try subst e3_)))
     (try (have E_:=zi (hx22004_6.symm.trans hv22009_6);injection E_ with e1_ e2_ e3_;(try subst e1_);(try subst e3_)))
     have hv22004_6:=hx22004_6
     replace hx22004_0:=zx HB.out hx22004_0
     replace hx22004_1:=zx HB.out hx22004_1
     replace hx22004_2:=zx HB.out hx22004_2
     replace hx22004_3:=zx HB.out hx22004_3
     replace hx22004_4:=zx HB.out hx22004_4
     replace hx22004_5:=zx HB.out hx22004_5
     replace hx22004_6:=zx HB.out hx22004_6
     replace hx22004_7:=zx HB.out hx22004_7
     have HR22004_5:=zk hi22004_5
     have HC22004_5:=zk hl22004_5
     clear hi22004_5 hl22004_5
     have HR22004_6:=zk hi22004_6
     have HC22004_6:=zk hl22004_6
     clear hi22004_6 hl22004_6
     replace p22004:=eq_true p22004
     replace q22004:=eq_true q22004
     refine start_ (n:=8) (S:=fun w'=>w'.cell? (ad22001.add ((x5_1).toNat * 8))=some (.int .i64 ((rd_T46 l0 x5_1).f0))∧w'.cell? ⟨(ad22001.add ((x5_1).toNat * 8)).block,(ad22001.add ((x5_1).toNat * 8)).off+1,none⟩=some (.string ((rd_T46 l0 x5_1).f1))∧w'.cell? ⟨(ad22001.add ((x5_1).toNat * 8)).block,(ad22001.add ((x5_1).toNat * 8)).off+2,none⟩=some (.string ((rd_T46 l0 x5_1).f2))∧w'.cell? ⟨(ad22001.add ((x5_1).toNat * 8)).block,(ad22001.add ((x5_1).toNat * 8)).off+3,none⟩=some (.int .i64 ((rd_T46 l0 x5_1).f3.f0))∧w'.cell? ⟨(ad22001.add ((x5_1).toNat * 8)).block,(ad22001.add ((x5_1).toNat * 8)).off+4,none⟩=some (.string ((rd_T46 l0 x5_1).f3.f1))∧w'.cell? ⟨(ad22001.add ((x5_1).toNat * 8)).block,(ad22001.add ((x5_1).toNat * 8)).off+5,none⟩=some (.slice A22004_5 ((rd_T46 l0 x5_1).f3.f2).length c22004_5)∧w'.cell? ⟨(ad22001.add ((x5_1).toNat * 8)).block,(ad22001.add ((x5_1).toNat * 8)).off+6,none⟩=some (.slice A22004_6 ((rd_T46 l0 x5_1).f4).length c22004_6)∧w'.cell? ⟨(ad22001.add ((x5_1).toNat * 8)).block,(ad22001.add ((x5_1).toNat * 8)).off+7,none⟩=some (.int .i64 ((rd_T46 l0 x5_1).f5))) (ds:=[]) #[false,false,false,false,false,false,false,false] (by kernel_rfl) rfl rfl ⟨((HB.out.cell (World.block_lt_of_cell? w _ hw22004_0)).trans hw22004_0),((HB.out.cell (World.block_lt_of_cell? w _ hw22004_1)).trans hw22004_1),((HB.out.cell (World.block_lt_of_cell? w _ hw22004_2)).trans hw22004_2),((HB.out.cell (World.block_lt_of_cell? w _ hw22004_3)).trans hw22004_3),((HB.out.cell (World.block_lt_of_cell? w _ hw22004_4)).trans hw22004_4),((HB.out.cell (World.block_lt_of_cell? w _ hw22004_5)).trans hw22004_5),((HB.out.cell (World.block_lt_of_cell? w _ hw22004_6)).trans hw22004_6),((HB.out.cell (World.block_lt_of_cell? w _ hw22004_7)).trans hw22004_7)⟩ (fun hHeld=>?_);refine with_tabW laws_heldConstraintS.tab10 laws_heldConstraintS.bits10 (fun HT_ HW_=>?_)
     generalize w57.drew=w58 at HB HR22004_5 HR22004_6 hx22004_0 hx22004_1 hx22004_2 hx22004_3 hx22004_4 hx22004_5 hx22004_6 hx22004_7 hHeld ⊢
     refine zy 0 (some 31) HT_.out ?_
     refine zy 1 (some 32) HT_.out ?_
     refine zy 2 (some 33) HT_.out ?_
     refine zy 3 (some 34) HT_.out ?_
     refine zy 5 (some 36) HT_.out ?_
     refine ztk 4 (some 35) HT_.out HW_.out hHeld ?_
     refine zon 6 (some 37) HT_.out (fun K hK=>?_)
     refine goes_ Try.func32 (by kernel_rfl) rfl #[.int .i64 (wrap64 ((wrap64 (x1_1+1))+1))] (by rfl) rfl rfl za6 ?_
     with_reducible refine (laws_markText.calls k1 (wrap64 ((wrap64 (x1_1+1))+1)) t5 _ A8.out).mono ?_
     rintro e w59 ⟨rfl,hb⟩
     refine ⟨_,rfl,?_⟩
     replace HB:=yB HB hb
     (try clear hb)
     (try clear hb2)
     (try clear hk)
     (try clear hi)
     refine hK.out _ _ ⟨((HB.out.cell (World.block_lt_of_cell? w _ hw22004_0)).trans hw22004_0),((HB.out.cell (World.block_lt_of_cell? w _ hw22004_1)).trans hw22004_1),((HB.out.cell (World.block_lt_of_cell? w _ hw22004_2)).trans hw22004_2),((HB.out.cell (World.block_lt_of_cell? w _ hw22004_3)).trans hw22004_3),((HB.out.cell (World.block_lt_of_cell? w _ hw22004_4)).trans hw22004_4),((HB.out.cell (World.block_lt_of_cell? w _ hw22004_5)).trans hw22004_5),((HB.out.cell (World.block_lt_of_cell? w _ hw22004_6)).trans hw22004_6),((HB.out.cell (World.block_lt_of_cell? w _ hw22004_7)).trans hw22004_7)⟩ (fun hHeld=>?_)
     clear hK K
     refine zno (some 37) ?_
     refine zy 7 (some 38) HT_.out ?_
     refine done_ (done_of HT_.out (by kernel_rfl)) ?_
     try go_wp2
     go_ret
     exact ⟨za8,za5⟩
   · rw [if_neg c7] at H
     have c7b0:=zbn c7
     have c7b1:=zqt c7
     obtain rfl:=zi H
     have p22001:0≤(x5_1:Int):=of_decide_eq_true za7
     have q22001:x5_1 < (l0.length:Int):=of_decide_eq_true za7
     obtain ⟨ad22001,A22001_5,c22001_5,A22001_6,c22001_6,e22001,hx22001_0,hx22001_1,hx22001_2,hx22001_3,hx22001_4,hx22001_5,hx22001_6,hx22001_7,hl22001_5,hi22001_5,hl22001_6,hi22001_6⟩:=at_T46 HR0.out x5_1 p22001 q22001
     cases e22001
     (try (have E_:=zi (hx22001_5.symm.trans hv22001_5);injection E_ with e1_ e2_ e3_;(try subst e1_);(try subst e3_)))
     (try (have E_:=zi (hx22001_5.symm.trans hv22002_5);injection E_ with e1_ e2_ e3_;(try subst e1_);(try subst e3_)))
     (try (have E_:=zi (hx22001_5.symm.trans hv22004_5);injection E_ with e1_ e2_ e3_;(try subst e1_);(try subst e3_)))
     (try (have E_:=zi (hx22001_5.symm.trans hv22006_5);injection E_ with e1_ e2_ e3_;(try subst e1_);(try subst e3_)))
     (try (have E_:=zi (hx22001_5.symm.trans hv22007_5);injection E_ with e1_ e2_ e3_;(try subst e1_);(try subst e3_)))
     (try (have E_:=zi (hx22001_5.symm.trans hv22009_5);injection E_ with e1_ e2_ e3_;(try subst e1_);(try subst e3_)))
     have hv22001_5:=hx22001_5
     (try (have E_:=zi (hx22001_6.symm.trans hv22001_6);injection E_ with e1_ e2_ e3_;(try subst e1_);(try subst e3_)))
     (try (have E_:=zi (hx22001_6.symm.trans hv22002_6);injection E_ with e1_ e2_ e3_;(try subst e1_);(try subst e3_)))
     (try (have E_:=zi (hx22001_6.symm.trans hv22004_6);injection E_ with e1_ e2_ e3_;(try subst e1_);(try subst e3_)))
     (try (have E_:=zi (hx22001_6.symm.trans hv22006_6);injection E_ with e1_ e2_ e3_;(try subst e1_);(try subst e3_)))
     (try (have E_:=zi (hx22001_6.symm.trans hv22007_6);injection E_ with e1_ e2_ e3_;(try subst e1_);(try subst e3_)))
     (try (have E_:=zi (hx22001_6.symm.trans hv22009_6);injection E_ with e1_ e2_ e3_;(try subst e1_);(try subst e3_)))
     have hv22001_6:=hx22001_6
     replace hx22001_0:=zx HB.out hx22001_0
     replace hx22001_1:=zx HB.out hx22001_1
     replace hx22001_2:=zx HB.out hx22001_2
     replace hx22001_3:=zx HB.out hx22001_3
     replace hx22001_4:=zx HB.out hx22001_4
     replace hx22001_5:=zx HB.out hx22001_5
     replace hx22001_6:=zx HB.out hx22001_6
     replace hx22001_7:=zx HB.out hx22001_7
     have HR22001_5:=zk hi22001_5
     have HC22001_5:=zk hl22001_5
     clear hi22001_5 hl22001_5
     have HR22001_6:=zk hi22001_6
     have HC22001_6:=zk hl22001_6
     clear hi22001_6 hl22001_6
     replace p22001:=eq_true p22001
     replace q22001:=eq_true q22001
     try go_wp2
     replace HB:=zk (below_drew1 HB.out)
     have p22002:0≤(x5_1:Int):=of_decide_eq_true za7
     have q22002:x5_1 < (l0.length:Int):=of_decide_eq_true za7
     obtain ⟨ad22002,A22002_5,c22002_5,A22002_6,c22002_6,e22002,hx22002_0,hx22002_1,hx22002_2,hx22002_3,hx22002_4,hx22002_5,hx22002_6,hx22002_7,hl22002_5,hi22002_5,hl22002_6,hi22002_6⟩:=at_T46 HR0.out x5_1 p22002 q22002
     have hw22002_7:=hx22002_7
     have hw22002_6:=hx22002_6
     have hw22002_5:=hx22002_5
     have hw22002_4:=hx22002_4
     have hw22002_3:=hx22002_3
     have hw22002_2:=hx22002_2
     have hw22002_1:=hx22002_1
     have hw22002_0:=hx22002_0
     obtain rfl:ad22001=ad22002:=(by injection e22002)
     (try (have E_:=zi (hx22002_5.symm.trans hv22001_5);injection E_ with e1_ e2_ e3_;(try subst e1_);(try subst e3_)))
     (try (have E_:=zi (hx22002_5.symm.trans hv22002_5);injection E_ with e1_ e2_ e3_;(try subst e1_);(try subst e3_)))
     (try (have E_:=zi (hx22002_5.symm.trans hv22004_5);injection E_ with e1_ e2_ e3_;(try subst e1_);(try subst e3_)))
     (try (have E_:=zi (hx22002_5.symm.trans hv22006_5);injection E_ with e1_ e2_ e3_;(try subst e1_);(try subst e3_)))
     (try (have E_:=zi (hx22002_5.symm.trans hv22007_5);injection E_ with e1_ e2_ e3_;(try subst e1_);(try subst e3_)))
     (try (have E_:=zi (hx22002_5.symm.trans hv22009_5);injection E_ with e1_ e2_ e3_;(try subst e1_);(try subst e3_)))
     have hv22002_5:=hx22002_5
     (try (have E_:=zi (hx22002_6.symm.trans hv22001_6);injection E_ with e1_ e2_ e3_;(try subst e1_);(try subst e3_)))
     (try (have E_:=zi (hx22002_6.symm.trans hv22002_6);injection E_ with e1_ e2_ e3_;(try subst e1_);(try subst e3_)))
     (try (have E_:=zi (hx22002_6.symm.trans hv22004_6);injection E_ with e1_ e2_ e3_;(try subst e1_);(try subst e3_)))
     (try (have E_:=zi (hx22002_6.symm.trans hv22006_6);injection E_ with e1_ e2_ e3_;(try subst e1_);(try subst e3_)))
     (try (have E_:=zi (hx22002_6.symm.trans hv22007_6);injection E_ with e1_ e2_ e3_;(try subst e1_);(try subst e3_)))
     (try (have E_:=zi (hx22002_6.symm.trans hv22009_6);injection E_ with e1_ e2_ e3_;(try subst e1_);(try subst e3_)))
     have hv22002_6:=hx22002_6
     replace hx22002_0:=zx HB.out hx22002_0
     replace hx22002_1:=zx HB.out hx22002_1
     replace hx22002_2:=zx HB.out hx22002_2
     replace hx22002_3:=zx HB.out hx22002_3
     replace hx22002_4:=zx HB.out hx22002_4
     replace hx22002_5:=zx HB.out hx22002_5
     replace hx22002_6:=zx HB.out hx22002_6
     replace hx22002_7:=zx HB.out hx22002_7
     have HR22002_5:=zk hi22002_5
     have HC22002_5:=zk hl22002_5
     clear hi22002_5 hl22002_5
     have HR22002_6:=zk hi22002_6
     have HC22002_6:=zk hl22002_6
     clear hi22002_6 hl22002_6
     replace p22002:=eq_true p22002
     replace q22002:=eq_true q22002
     refine start_ (n:=8) (S:=fun w'=>w'.cell? (ad22001.add ((x5_1).toNat * 8))=some (.int .i64 ((rd_T46 l0 x5_1).f0))∧w'.cell? ⟨(ad22001.add ((x5_1).toNat * 8)).block,(ad22001.add ((x5_1).toNat * 8)).off+1,none⟩=some (.string ((rd_T46 l0 x5_1).f1))∧w'.cell? ⟨(ad22001.add ((x5_1).toNat * 8)).block,(ad22001.add ((x5_1).toNat * 8)).off+2,none⟩=some (.string ((rd_T46 l0 x5_1).f2))∧w'.cell? ⟨(ad22001.add ((x5_1).toNat * 8)).block,(ad22001.add ((x5_1).toNat * 8)).off+3,none⟩=some (.int .i64 ((rd_T46 l0 x5_1).f3.f0))∧w'.cell? ⟨(ad22001.add ((x5_1).toNat * 8)).block,(ad22001.add ((x5_1).toNat * 8)).off+4,none⟩=some (.string ((rd_T46 l0 x5_1).f3.f1))∧w'.cell? ⟨(ad22001.add ((x5_1).toNat * 8)).block,(ad22001.add ((x5_1).toNat * 8)).off+5,none⟩=some (.slice A22002_5 ((rd_T46 l0 x5_1).f3.f2).length c22002_5)∧w'.cell? ⟨(ad22001.add ((x5_1).toNat * 8)).block,(ad22001.add ((x5_1).toNat * 8)).off+6,none⟩=some (.slice A22002_6 ((rd_T46 l0 x5_1).f4).length c22002_6)∧w'.cell? ⟨(ad22001.add ((x5_1).toNat * 8)).block,(ad22001.add ((x5_1).toNat * 8)).off+7,none⟩=some (.int .i64 ((rd_T46 l0 x5_1).f5))) (ds:=[]) #[false,false,false,false,false,false,false,false] (by kernel_rfl) rfl rfl ⟨((HB.out.cell (World.block_lt_of_cell? w _ hw22002_0)).trans hw22002_0),((HB.out.cell (World.block_lt_of_cell? w _ hw22002_1)).trans hw22002_1),((HB.out.cell (World.block_lt_of_cell? w _ hw22002_2)).trans hw22002_2),((HB.out.cell (World.block_lt_of_cell? w _ hw22002_3)).trans hw22002_3),((HB.out.cell (World.block_lt_of_cell? w _ hw22002_4)).trans hw22002_4),((HB.out.cell (World.block_lt_of_cell? w _ hw22002_5)).trans hw22002_5),((HB.out.cell (World.block_lt_of_cell? w _ hw22002_6)).trans hw22002_6),((HB.out.cell (World.block_lt_of_cell? w _ hw22002_7)).trans hw22002_7)⟩ (fun hHeld=>?_);refine with_tabW laws_heldConstraintS.tab7 laws_heldConstraintS.bits7 (fun HT_ HW_=>?_)
     generalize wr.drew=w60 at HB HR22002_5 HR22002_6 hx22002_0 hx22002_1 hx22002_2 hx22002_3 hx22002_4 hx22002_5 hx22002_6 hx22002_7 hHeld ⊢
     refine zy 0 (some 21) HT_.out ?_
     refine zy 1 (some 22) HT_.out ?_
     refine zy 2 (some 23) HT_.out ?_
     refine zy 3 (some 24) HT_.out ?_
     refine zy 5 (some 26) HT_.out ?_
     refine ztk 4 (some 25) HT_.out HW_.out hHeld ?_
     refine zon 6 (some 27) HT_.out (fun K hK=>?_)
     refine goes_ Try.func32 (by kernel_rfl) rfl #[.int .i64 (wrap64 (x1_1+1))] (by rfl) rfl rfl za6 ?_
     with_reducible refine (laws_markText.calls k1 (wrap64 (x1_1+1)) t3 _ A6.out).mono ?_
     rintro e w61 ⟨rfl,hb⟩
     refine ⟨_,rfl,?_⟩
     replace HB:=yB HB hb
     (try clear hb)
     (try clear hb2)
     (try clear hk)
     (try clear hi)
     refine hK.out _ _ ⟨((HB.out.cell (World.block_lt_of_cell? w _ hw22002_0)).trans hw22002_0),((HB.out.cell (World.block_lt_of_cell? w _ hw22002_1)).trans hw22002_1),((HB.out.cell (World.block_lt_of_cell? w _ hw22002_2)).trans hw22002_2),((HB.out.cell (World.block_lt_of_cell? w _ hw22002_3)).trans hw22002_3),((HB.out.cell (World.block_lt_of_cell? w _ hw22002_4)).trans hw22002_4),((HB.out.cell (World.block_lt_of_cell? w _ hw22002_5)).trans hw22002_5),((HB.out.cell (World.block_lt_of_cell? w _ hw22002_6)).trans hw22002_6),((HB.out.cell (World.block_lt_of_cell? w _ hw22002_7)).trans hw22002_7)⟩ (fun hHeld=>?_)
     clear hK K
     refine zno (some 27) ?_
     refine zy 7 (some 28) HT_.out ?_
     refine done_ (done_of HT_.out (by kernel_rfl)) ?_
     try go_wp2
     go_ret
     exact ⟨za8,za5⟩
   rw [if_neg c5] at H
   have c5b0:=zbn c5
   have c5b1:=zqt c5
   obtain rfl:=zi H
   have p22001:0≤(x5_1:Int):=of_decide_eq_true za7
   have q22001:x5_1 < (l0.length:Int):=of_decide_eq_true za7
   obtain ⟨ad22001,A22001_5,c22001_5,A22001_6,c22001_6,e22001,hx22001_0,hx22001_1,hx22001_2,hx22001_3,hx22001_4,hx22001_5,hx22001_6,hx22001_7,hl22001_5,hi22001_5,hl22001_6,hi22001_6⟩:=at_T46 HR0.out x5_1 p22001 q22001
   cases e22001
   (try (have E_:=zi (hx22001_5.symm.trans hv22001_5);injection E_ with e1_ e2_ e3_;(try subst e1_);(try subst e3_)))
   (try (have E_:=zi (hx22001_5.symm.trans hv22002_5);injection E_ with e1_ e2_ e3_;(try subst e1_);(try subst e3_)))
   (try (have E_:=zi (hx22001_5.symm.trans hv22004_5);injection E_ with e1_ e2_ e3_;(try subst e1_);(try subst e3_)))
   (try (have E_:=zi (hx22001_5.symm.trans hv22006_5);injection E_ with e1_ e2_ e3_;(try subst e1_);(try subst e3_)))
   (try (have E_:=zi (hx22001_5.symm.trans hv22007_5);injection E_ with e1_ e2_ e3_;(try subst e1_);(try subst e3_)))
   (try (have E_:=zi (hx22001_5.symm.trans hv22009_5);injection E_ with e1_ e2_ e3_;(try subst e1_);(try subst e3_)))
   have hv22001_5:=hx22001_5
   (try (have E_:=zi (hx22001_6.symm.trans hv22001_6);injection E_ with e1_ e2_ e3_;(try subst e1_);(try subst e3_)))
   (try (have E_:=zi (hx22001_6.symm.trans hv22002_6);injection E_ with e1_ e2_ e3_;(try subst e1_);(try subst e3_)))
   (try (have E_:=zi (hx22001_6.symm.trans hv22004_6);injection E_ with e1_ e2_ e3_;(try subst e1_);(try subst e3_)))
   (try (have E_:=zi (hx22001_6.symm.trans hv22006_6);injection E_ with e1_ e2_ e3_;(try subst e1_);(try subst e3_)))
   (try (have E_:=zi (hx22001_6.symm.trans hv22007_6);injection E_ with e1_ e2_ e3_;(try subst e1_);(try subst e3_)))
   (try (have E_:=zi (hx22001_6.symm.trans hv22009_6);injection E_ with e1_ e2_ e3_;(try subst e1_);(try subst e3_)))
   have hv22001_6:=hx22001_6
   replace hx22001_0:=zx HB.out hx22001_0
   replace hx22001_1:=zx HB.out hx22001_1
   replace hx22001_2:=zx HB.out hx22001_2
   replace hx22001_3:=zx HB.out hx22001_3
   replace hx22001_4:=zx HB.out hx22001_4
   replace hx22001_5:=zx HB.out hx22001_5
   replace hx22001_6:=zx HB.out hx22001_6
   replace hx22001_7:=zx HB.out hx22001_7
   have HR22001_5:=zk hi22001_5
   have HC22001_5:=zk hl22001_5
   clear hi22001_5 hl22001_5
   have HR22001_6:=zk hi22001_6
   have HC22001_6:=zk hl22001_6
   clear hi22001_6 hl22001_6
   replace p22001:=eq_true p22001
   replace q22001:=eq_true q22001
   have tag1_:=zk trivial
   rotate_left
   · rw [if_neg c4] at H
     exact absurd H (by simp)
   rw [if_neg c3] at H
   have c3b0:=zdnl c3
   clear c3
   obtain rfl:=zi H
   have tag1_:=zk trivial
   rotate_left
   all_goals first
    | (
      clear tag0_
      have p22001:0≤(x5_1:Int):=of_decide_eq_true za7
      have q22001:x5_1 < (l0.length:Int):=of_decide_eq_true za7
      obtain ⟨ad22001,A22001_5,c22001_5,A22001_6,c22001_6,e22001,hx22001_0,hx22001_1,hx22001_2,hx22001_3,hx22001_4,hx22001_5,hx22001_6,hx22001_7,hl22001_5,hi22001_5,hl22001_6,hi22001_6⟩:=at_T46 HR0.out x5_1 p22001 q22001
      cases e22001
      (try (have E_:=zi (hx22001_5.symm.trans hv22001_5);injection E_ with e1_ e2_ e3_;(try subst e1_);(try subst e3_)))
      (try (have E_:=zi (hx22001_5.symm.trans hv22002_5);injection E_ with e1_ e2_ e3_;(try subst e1_);(try subst e3_)))
      (try (have E_:=zi (hx22001_5.symm.trans hv22004_5);injection E_ with e1_ e2_ e3_;(try subst e1_);(try subst e3_)))
      (try (have E_:=zi (hx22001_5.symm.trans hv22006_5);injection E_ with e1_ e2_ e3_;(try subst e1_);(try subst e3_)))
      (try (have E_:=zi (hx22001_5.symm.trans hv22007_5);injection E_ with e1_ e2_ e3_;(try subst e1_);(try subst e3_)))
      (try (have E_:=zi (hx22001_5.symm.trans hv22009_5);injection E_ with e1_ e2_ e3_;(try subst e1_);(try subst e3_)))
      have hv22001_5:=hx22001_5
      (try (have E_:=zi (hx22001_6.symm.trans hv22001_6);injection E_ with e1_ e2_ e3_;(try subst e1_);(try subst e3_)))
      (try (have E_:=zi (hx22001_6.symm.trans hv22002_6);injection E_ with e1_ e2_ e3_;(try subst e1_);(try subst e3_)))
      (try (have E_:=zi (hx22001_6.symm.trans hv22004_6);injection E_ with e1_ e2_ e3_;(try subst e1_);(try subst e3_)))
      (try (have E_:=zi (hx22001_6.symm.trans hv22006_6);injection E_ with e1_ e2_ e3_;(try subst e1_);(try subst e3_)))
      (try (have E_:=zi (hx22001_6.symm.trans hv22007_6);injection E_ with e1_ e2_ e3_;(try subst e1_);(try subst e3_)))
      (try (have E_:=zi (hx22001_6.symm.trans hv22009_6);injection E_ with e1_ e2_ e3_;(try subst e1_);(try subst e3_)))
      have hv22001_6:=hx22001_6
      replace hx22001_0:=zx HB.out hx22001_0
      replace hx22001_1:=zx HB.out hx22001_1
      replace hx22001_2:=zx HB.out hx22001_2
      replace hx22001_3:=zx HB.out hx22001_3
      replace hx22001_4:=zx HB.out hx22001_4
      replace hx22001_5:=zx HB.out hx22001_5
      replace hx22001_6:=zx HB.out hx22001_6
      replace hx22001_7:=zx HB.out hx22001_7
      have HR22001_5:=zk hi22001_5
      have HC22001_5:=zk hl22001_5
      clear hi22001_5 hl22001_5
      have HR22001_6:=zk hi22001_6
      have HC22001_6:=zk hl22001_6
      clear hi22001_6 hl22001_6
      replace p22001:=eq_true p22001
      replace q22001:=eq_true q22001
      try go_wp2
      replace HB:=zk (below_drew1 HB.out)
      have p22002:0≤(x5_1:Int):=of_decide_eq_true za7
      have q22002:x5_1 < (l0.length:Int):=of_decide_eq_true za7
      obtain ⟨ad22002,A22002_5,c22002_5,A22002_6,c22002_6,e22002,hx22002_0,hx22002_1,hx22002_2,hx22002_3,hx22002_4,hx22002_5,hx22002_6,hx22002_7,hl22002_5,hi22002_5,hl22002_6,hi22002_6⟩:=at_T46 HR0.out x5_1 p22002 q22002
      have hw22002_7:=hx22002_7
      have hw22002_6:=hx22002_6
      have hw22002_5:=hx22002_5
      have hw22002_4:=hx22002_4
      have hw22002_3:=hx22002_3
      have hw22002_2:=hx22002_2
      have hw22002_1:=hx22002_1
      have hw22002_0:=hx22002_0
      obtain rfl:ad22001=ad22002:=(by injection e22002)
      (try (have E_:=zi (hx22002_5.symm.trans hv22001_5);injection E_ with e1_ e2_ e3_;(try subst e1_);(try subst e3_)))
      (try (have E_:=zi (hx22002_5.symm.trans hv22002_5);injection E_ with e1_ e2_ e3_;(try subst e1_);(try subst e3_)))
      (try (have E_:=zi (hx22002_5.symm.trans hv22004_5);injection E_ with e1_ e2_ e3_;(try subst e1_);(try subst e3_)))
      (try (have E_:=zi (hx22002_5.symm.trans hv22006_5);injection E_ with e1_ e2_ e3_;(try subst e1_);(try subst e3_)))
      (try (have E_:=zi (hx22002_5.symm.trans hv22007_5);injection E_ with e1_ e2_ e3_;(try subst e1_);(try subst e3_)))
      (try (have E_:=zi (hx22002_5.symm.trans hv22009_5);injection E_ with e1_ e2_ e3_;(try subst e1_);(try subst e3_)))
      have hv22002_5:=hx22002_5
      (try (have E_:=zi (hx22002_6.symm.trans hv22001_6);injection E_ with e1_ e2_ e3_;(try subst e1_);(try subst e3_)))
      (try (have E_:=zi (hx22002_6.symm.trans hv22002_6);injection E_ with e1_ e2_ e3_;(try subst e1_);(try subst e3_)))
      (try (have E_:=zi (hx22002_6.symm.trans hv22004_6);injection E_ with e1_ e2_ e3_;(try subst e1_);(try subst e3_)))
      (try (have E_:=zi (hx22002_6.symm.trans hv22006_6);injection E_ with e1_ e2_ e3_;(try subst e1_);(try subst e3_)))
      (try (have E_:=zi (hx22002_6.symm.trans hv22007_6);injection E_ with e1_ e2_ e3_;(try subst e1_);(try subst e3_)))
      (try (have E_:=zi (hx22002_6.symm.trans hv22009_6);injection E_ with e1_ e2_ e3_;(try subst e1_);(try subst e3_)))
      have hv22002_6:=hx22002_6
      replace hx22002_0:=zx HB.out hx22002_0
      replace hx22002_1:=zx HB.out hx22002_1
      replace hx22002_2:=zx HB.out hx22002_2
      replace hx22002_3:=zx HB.out hx22002_3
      replace hx22002_4:=zx HB.out hx22002_4
      replace hx22002_5:=zx HB.out hx22002_5
      replace hx22002_6:=zx HB.out hx22002_6
      replace hx22002_7:=zx HB.out hx22002_7
      have HR22002_5:=zk hi22002_5
      have HC22002_5:=zk hl22002_5
      clear hi22002_5 hl22002_5
      have HR22002_6:=zk hi22002_6
      have HC22002_6:=zk hl22002_6
      clear hi22002_6 hl22002_6
      replace p22002:=eq_true p22002
      replace q22002:=eq_true q22002
      refine start_ (n:=8) (S:=fun w'=>w'.cell? (ad22001.add ((x5_1).toNat * 8))=some (.int .i64 ((rd_T46 l0 x5_1).f0))∧w'.cell? ⟨(ad22001.add ((x5_1).toNat * 8)).block,(ad22001.add ((x5_1).toNat * 8)).off+1,none⟩=some (.string ((rd_T46 l0 x5_1).f1))∧w'.cell? ⟨(ad22001.add ((x5_1).toNat * 8)).block,(ad22001.add ((x5_1).toNat * 8)).off+2,none⟩=some (.string ((rd_T46 l0 x5_1).f2))∧w'.cell? ⟨(ad22001.add ((x5_1).toNat * 8)).block,(ad22001.add ((x5_1).toNat * 8)).off+3,none⟩=some (.int .i64 ((rd_T46 l0 x5_1).f3.f0))∧w'.cell? ⟨(ad22001.add ((x5_1).toNat * 8)).block,(ad22001.add ((x5_1).toNat * 8)).off+4,none⟩=some (.string ((rd_T46 l0 x5_1).f3.f1))∧w'.cell? ⟨(ad22001.add ((x5_1).toNat * 8)).block,(ad22001.add ((x5_1).toNat * 8)).off+5,none⟩=some (.slice A22002_5 ((rd_T46 l0 x5_1).f3.f2).length c22002_5)∧w'.cell? ⟨(ad22001.add ((x5_1).toNat * 8)).block,(ad22001.add ((x5_1).toNat * 8)).off+6,none⟩=some (.slice A22002_6 ((rd_T46 l0 x5_1).f4).length c22002_6)∧w'.cell? ⟨(ad22001.add ((x5_1).toNat * 8)).block,(ad22001.add ((x5_1).toNat * 8)).off+7,none⟩=some (.int .i64 ((rd_T46 l0 x5_1).f5))) (ds:=[]) #[false,false,false,false,false,false,false,false] (by kernel_rfl) rfl rfl ⟨((HB.out.cell (World.block_lt_of_cell? w _ hw22002_0)).trans hw22002_0),((HB.out.cell (World.block_lt_of_cell? w _ hw22002_1)).trans hw22002_1),((HB.out.cell (World.block_lt_of_cell? w _ hw22002_2)).trans hw22002_2),((HB.out.cell (World.block_lt_of_cell? w _ hw22002_3)).trans hw22002_3),((HB.out.cell (World.block_lt_of_cell? w _ hw22002_4)).trans hw22002_4),((HB.out.cell (World.block_lt_of_cell? w _ hw22002_5)).trans hw22002_5),((HB.out.cell (World.block_lt_of_cell? w _ hw22002_6)).trans hw22002_6),((HB.out.cell (World.block_lt_of_cell? w _ hw22002_7)).trans hw22002_7)⟩ (fun hHeld=>?_);refine with_tabW laws_heldConstraintS.tab7 laws_heldConstraintS.bits7 (fun HT_ HW_=>?_)
      generalize wr.drew=w32 at HB HR22002_5 HR22002_6 hx22002_0 hx22002_1 hx22002_2 hx22002_3 hx22002_4 hx22002_5 hx22002_6 hx22002_7 hHeld ⊢
      refine zy 0 (some 21) HT_.out ?_
      refine zy 1 (some 22) HT_.out ?_
      refine zy 2 (some 23) HT_.out ?_
      refine zy 3 (some 24) HT_.out ?_
      refine zy 5 (some 26) HT_.out ?_
      refine ztk 4 (some 25) HT_.out HW_.out hHeld ?_
      refine zon 6 (some 27) HT_.out (fun K hK=>?_)
      refine goes_ Try.func32 (by kernel_rfl) rfl #[.int .i64 (wrap64 (x1_1+1))] (by rfl) rfl rfl za6 ?_
      with_reducible refine (laws_markText.calls k1 (wrap64 (x1_1+1)) t3 _ A6.out).mono ?_
      rintro e w33 ⟨rfl,hb⟩
      refine ⟨_,rfl,?_⟩
      replace HB:=yB HB hb
      (try clear hb)
      (try clear hb2)
      (try clear hk)
      (try clear hi)
      refine hK.out _ _ ⟨((HB.out.cell (World.block_lt_of_cell? w _ hw22002_0)).trans hw22002_0),((HB.out.cell (World.block_lt_of_cell? w _ hw22002_1)).trans hw22002_1),((HB.out.cell (World.block_lt_of_cell? w _ hw22002_2)).trans hw22002_2),((HB.out.cell (World.block_lt_of_cell? w _ hw22002_3)).trans hw22002_3),((HB.out.cell (World.block_lt_of_cell? w _ hw22002_4)).trans hw22002_4),((HB.out.cell (World.block_lt_of_cell? w _ hw22002_5)).trans hw22002_5),((HB.out.cell (World.block_lt_of_cell? w _ hw22002_6)).trans hw22002_6),((HB.out.cell (World.block_lt_of_cell? w _ hw22002_7)).trans hw22002_7)⟩ (fun hHeld=>?_)
      clear hK K
      refine zno (some 27) ?_
      refine zy 7 (some 28) HT_.out ?_
      refine done_ (done_of HT_.out (by kernel_rfl)) ?_
      try go_wp2
      replace HB:=zk (below_drew1 HB.out)
      have p22004:0≤(x5_1:Int):=of_decide_eq_true za7
      have q22004:x5_1 < (l0.length:Int):=of_decide_eq_true za7
      obtain ⟨ad22004,A22004_5,c22004_5,A22004_6,c22004_6,e22004,hx22004_0,hx22004_1,hx22004_2,hx22004_3,hx22004_4,hx22004_5,hx22004_6,hx22004_7,hl22004_5,hi22004_5,hl22004_6,hi22004_6⟩:=at_T46 HR0.out x5_1 p22004 q22004
      have hw22004_7:=hx22004_7
      have hw22004_6:=hx22004_6
      have hw22004_5:=hx22004_5
      have hw22004_4:=hx22004_4
      have hw22004_3:=hx22004_3
      have hw22004_2:=hx22004_2
      have hw22004_1:=hx22004_1
      have hw22004_0:=hx22004_0
      obtain rfl:ad22001=ad22004:=(by injection e22004)
      (try (have E_:=zi (hx22004_5.symm.trans hv22001_5);injection E_ with e1_ e2_ e3_;(try subst e1_);(try subst e3_)))
      (try (have E_:=zi (hx22004_5.symm.trans hv22002_5);injection E_ with e1_ e2_ e3_;(try subst e1_);(try subst e3_)))
      (try (have E_:=zi (hx22004_5.symm.trans hv22004_5);injection E_ with e1_ e2_ e3_;(try subst e1_);(try subst e3_)))
      (try (have E_:=zi (hx22004_5.symm.trans hv22006_5);injection E_ with e1_ e2_ e3_;(try subst e1_);(try subst e3_)))
      (try (have E_:=zi (hx22004_5.symm.trans hv22007_5);injection E_ with e1_ e2_ e3_;(try subst e1_);(try subst e3_)))
      (try (have E_:=zi (hx22004_5.symm.trans hv22009_5);injection E_ with e1_ e2_ e3_;(try subst e1_);(try subst e3_)))
      have hv22004_5:=hx22004_5
      (try (have E_:=zi (hx22004_6.symm.trans hv22001_6);injection E_ with e1_ e2_ e3_;(try subst e1_);(try subst e3_)))
      (try (have E_:=zi (hx22004_6.symm.trans hv22002_6);injection E_ with e1_ e2_ e3_;(try subst e1_);(try subst e3_)))
      (try (have E_:=zi (hx22004_6.symm.trans hv22004_6);injection E_ with e1_ e2_ e3_;(try subst e1_);(try subst e3_)))
      (try (have E_:=zi (hx22004_6.symm.trans hv22006_6);injection E_ with e1_ e2_ e3_;(try subst e1_);(try subst e3_)))
      (try (have E_:=zi (hx22004_6.symm.trans hv22007_6);injection E_ with e1_ e2_ e3_;(try subst e1_);(try subst e3_)))
      (try (have E_:=zi (hx22004_6.symm.trans hv22009_6);injection E_ with e1_ e2_ e3_;(try subst e1_);(try subst e3_)))
      have hv22004_6:=hx22004_6
      replace hx22004_0:=zx HB.out hx22004_0
      replace hx22004_1:=zx HB.out hx22004_1
      replace hx22004_2:=zx HB.out hx22004_2
      replace hx22004_3:=zx HB.out hx22004_3
      replace hx22004_4:=zx HB.out hx22004_4
      replace hx22004_5:=zx HB.out hx22004_5
      replace hx22004_6:=zx HB.out hx22004_6
      replace hx22004_7:=zx HB.out hx22004_7
      have HR22004_5:=zk hi22004_5
      have HC22004_5:=zk hl22004_5
      clear hi22004_5 hl22004_5
      have HR22004_6:=zk hi22004_6
      have HC22004_6:=zk hl22004_6
      clear hi22004_6 hl22004_6
      replace p22004:=eq_true p22004
      replace q22004:=eq_true q22004
      refine start_ (n:=8) (S:=fun w'=>w'.cell? (ad22001.add ((x5_1).toNat * 8))=some (.int .i64 ((rd_T46 l0 x5_1).f0))∧w'.cell? ⟨(ad22001.add ((x5_1).toNat * 8)).block,(ad22001.add ((x5_1).toNat * 8)).off+1,none⟩=some (.string ((rd_T46 l0 x5_1).f1))∧w'.cell? ⟨(ad22001.add ((x5_1).toNat * 8)).block,(ad22001.add ((x5_1).toNat * 8)).off+2,none⟩=some (.string ((rd_T46 l0 x5_1).f2))∧w'.cell? ⟨(ad22001.add ((x5_1).toNat * 8)).block,(ad22001.add ((x5_1).toNat * 8)).off+3,none⟩=some (.int .i64 ((rd_T46 l0 x5_1).f3.f0))∧w'.cell? ⟨(ad22001.add ((x5_1).toNat * 8)).block,(ad22001.add ((x5_1).toNat * 8)).off+4,none⟩=some (.string ((rd_T46 l0 x5_1).f3.f1))∧w'.cell? ⟨(ad22001.add ((x5_1).toNat * 8)).block,(ad22001.add ((x5_1).toNat * 8)).off+5,none⟩=some (.slice A22004_5 ((rd_T46 l0 x5_1).f3.f2).length c22004_5)∧w'.cell? ⟨(ad22001.add ((x5_1).toNat * 8)).block,(ad22001.add ((x5_1).toNat * 8)).off+6,none⟩=some (.slice A22004_6 ((rd_T46 l0 x5_1).f4).length c22004_6)∧w'.cell? ⟨(ad22001.add ((x5_1).toNat * 8)).block,(ad22001.add ((x5_1).toNat * 8)).off+7,none⟩=some (.int .i64 ((rd_T46 l0 x5_1).f5))) (ds:=[]) #[false,false,false,false,false,false,false,false] (by kernel_rfl) rfl rfl ⟨((HB.out.cell (World.block_lt_of_cell? w _ hw22004_0)).trans hw22004_0),((HB.out.cell (World.block_lt_of_cell? w _ hw22004_1)).trans hw22004_1),((HB.out.cell (World.block_lt_of_cell? w _ hw22004_2)).trans hw22004_2),((HB.out.cell (World.block_lt_of_cell? w _ hw22004_3)).trans hw22004_3),((HB.out.cell (World.block_lt_of_cell? w _ hw22004_4)).trans hw22004_4),((HB.out.cell (World.block_lt_of_cell? w _ hw22004_5)).trans hw22004_5),((HB.out.cell (World.block_lt_of_cell? w _ hw22004_6)).trans hw22004_6),((HB.out.cell (World.block_lt_of_cell? w _ hw22004_7)).trans hw22004_7)⟩ (fun hHeld=>?_);refine with_tabW laws_heldConstraintS.tab10 laws_heldConstraintS.bits10 (fun HT_ HW_=>?_)
      generalize w33.drew=w34 at HB HR22004_5 HR22004_6 hx22004_0 hx22004_1 hx22004_2 hx22004_3 hx22004_4 hx22004_5 hx22004_6 hx22004_7 hHeld ⊢
      refine zy 0 (some 31) HT_.out ?_
      refine zy 1 (some 32) HT_.out ?_
      refine zy 2 (some 33) HT_.out ?_
      refine zy 3 (some 34) HT_.out ?_
      refine zy 5 (some 36) HT_.out ?_
      refine ztk 4 (some 35) HT_.out HW_.out hHeld ?_
      refine zon 6 (some 37) HT_.out (fun K hK=>?_)
      refine goes_ Try.func32 (by kernel_rfl) rfl #[.int .i64 (wrap64 ((wrap64 (x1_1+1))+1))] (by rfl) rfl rfl za6 ?_
      with_reducible refine (laws_markText.calls k1 (wrap64 ((wrap64 (x1_1+1))+1)) t5 _ A8.out).mono ?_
      rintro e w35 ⟨rfl,hb⟩
      refine ⟨_,rfl,?_⟩
      replace HB:=yB HB hb
      (try clear hb)
      (try clear hb2)
      (try clear hk)
      (try clear hi)
      refine hK.out _ _ ⟨((HB.out.cell (World.block_lt_of_cell? w _ hw22004_0)).trans hw22004_0),((HB.out.cell (World.block_lt_of_cell? w _ hw22004_1)).trans hw22004_1),((HB.out.cell (World.block_lt_of_cell? w _ hw22004_2)).trans hw22004_2),((HB.out.cell (World.block_lt_of_cell? w _ hw22004_3)).trans hw22004_3),((HB.out.cell (World.block_lt_of_cell? w _ hw22004_4)).trans hw22004_4),((HB.out.cell (World.block_lt_of_cell? w _ hw22004_5)).trans hw22004_5),((HB.out.cell (World.block_lt_of_cell? w _ hw22004_6)).trans hw22004_6),((HB.out.cell (World.block_lt_of_cell? w _ hw22004_7)).trans hw22004_7)⟩ (fun hHeld=>?_)
      clear hK K
      refine zno (some 37) ?_
      refine zy 7 (some 38) HT_.out ?_
      refine done_ (done_of HT_.out (by kernel_rfl)) ?_
      have p22006:0≤(x5_1:Int):=of_decide_eq_true za7
      have q22006:x5_1 < (l0.length:Int):=of_decide_eq_true za7
      obtain ⟨ad22006,A22006_5,c22006_5,A22006_6,c22006_6,e22006,hx22006_0,hx22006_1,hx22006_2,hx22006_3,hx22006_4,hx22006_5,hx22006_6,hx22006_7,hl22006_5,hi22006_5,hl22006_6,hi22006_6⟩:=at_T46 HR0.out x5_1 p22006 q22006
      obtain rfl:ad22001=ad22006:=(by injection e22006)
      (try (have E_:=zi (hx22006_5.symm.trans hv22001_5);injection E_ with e1_ e2_ e3_;(try subst e1_);(try subst e3_)))
      (try (have E_:=zi (hx22006_5.symm.trans hv22002_5);injection E_ with e1_ e2_ e3_;(try subst e1_);(try subst e3_)))
      (try (have E_:=zi (hx22006_5.symm.trans hv22004_5);injection E_ with e1_ e2_ e3_;(try subst e1_);(try subst e3_)))
      (try (have E_:=zi (hx22006_5.symm.trans hv22006_5);injection E_ with e1_ e2_ e3_;(try subst e1_);(try subst e3_)))
      (try (have E_:=zi (hx22006_5.symm.trans hv22007_5);injection E_ with e1_ e2_ e3_;(try subst e1_);(try subst e3_)))
      (try (have E_:=zi (hx22006_5.symm.trans hv22009_5);injection E_ with e1_ e2_ e3_;(try subst e1_);(try subst e3_)))
      have hv22006_5:=hx22006_5
      (try (have E_:=zi (hx22006_6.symm.trans hv22001_6);injection E_ with e1_ e2_ e3_;(try subst e1_);(try subst e3_)))
      (try (have E_:=zi (hx22006_6.symm.trans hv22002_6);injection E_ with e1_ e2_ e3_;(try subst e1_);(try subst e3_)))
      (try (have E_:=zi (hx22006_6.symm.trans hv22004_6);injection E_ with e1_ e2_ e3_;(try subst e1_);(try subst e3_)))
      (try (have E_:=zi (hx22006_6.symm.trans hv22006_6);injection E_ with e1_ e2_ e3_;(try subst e1_);(try subst e3_)))
      (try (have E_:=zi (hx22006_6.symm.trans hv22007_6);injection E_ with e1_ e2_ e3_;(try subst e1_);(try subst e3_)))
      (try (have E_:=zi (hx22006_6.symm.trans hv22009_6);injection E_ with e1_ e2_ e3_;(try subst e1_);(try subst e3_)))
      have hv22006_6:=hx22006_6
      replace hx22006_0:=zx HB.out hx22006_0
      replace hx22006_1:=zx HB.out hx22006_1
      replace hx22006_2:=zx HB.out hx22006_2
      replace hx22006_3:=zx HB.out hx22006_3
      replace hx22006_4:=zx HB.out hx22006_4
      replace hx22006_5:=zx HB.out hx22006_5
      replace hx22006_6:=zx HB.out hx22006_6
      replace hx22006_7:=zx HB.out hx22006_7
      have HR22006_5:=zk hi22006_5
      have HC22006_5:=zk hl22006_5
      clear hi22006_5 hl22006_5
      have HR22006_6:=zk hi22006_6
      have HC22006_6:=zk hl22006_6
      clear hi22006_6 hl22006_6
      replace p22006:=eq_true p22006
      replace q22006:=eq_true q22006
      try go_wp2
      replace HB:=zk (below_drew1 HB.out)
      have p22007:0≤(x5_1:Int):=of_decide_eq_true za7
      have q22007:x5_1 < (l0.length:Int):=of_decide_eq_true za7
      obtain ⟨ad22007,A22007_5,c22007_5,A22007_6,c22007_6,e22007,hx22007_0,hx22007_1,hx22007_2,hx22007_3,hx22007_4,hx22007_5,hx22007_6,hx22007_7,hl22007_5,hi22007_5,hl22007_6,hi22007_6⟩:=at_T46 HR0.out x5_1 p22007 q22007
      have hw22007_7:=hx22007_7
      have hw22007_6:=hx22007_6
      have hw22007_5:=hx22007_5
      have hw22007_4:=hx22007_4
      have hw22007_3:=hx22007_3
      have hw22007_2:=hx22007_2
      have hw22007_1:=hx22007_1
      have hw22007_0:=hx22007_0
      obtain rfl:ad22001=ad22007:=(by injection e22007)
      (try (have E_:=zi (hx22007_5.symm.trans hv22001_5);injection E_ with e1_ e2_ e3_;(try subst e1_);(try subst e3_)))
      (try (have E_:=zi (hx22007_5.symm.trans hv22002_5);injection E_ with e1_ e2_ e3_;(try subst e1_);(try subst e3_)))
      (try (have E_:=zi (hx22007_5.symm.trans hv22004_5);injection E_ with e1_ e2_ e3_;(try subst e1_);(try subst e3_)))
      (try (have E_:=zi (hx22007_5.symm.trans hv22006_5);injection E_ with e1_ e2_ e3_;(try subst e1_);(try subst e3_)))
      (try (have E_:=zi (hx22007_5.symm.trans hv22007_5);injection E_ with e1_ e2_ e3_;(try subst e1_);(try subst e3_)))
      (try (have E_:=zi (hx22007_5.symm.trans hv22009_5);injection E_ with e1_ e2_ e3_;(try subst e1_);(try subst e3_)))
      have hv22007_5:=hx22007_5
      (try (have E_:=zi (hx22007_6.symm.trans hv22001_6);injection E_ with e1_ e2_ e3_;(try subst e1_);(try subst e3_)))
      (try (have E_:=zi (hx22007_6.symm.trans hv22002_6);injection E_ with e1_ e2_ e3_;(try subst e1_);(try subst e3_)))
      (try (have E_:=zi (hx22007_6.symm.trans hv22004_6);injection E_ with e1_ e2_ e3_;(try subst e1_);(try subst e3_)))
      (try (have E_:=zi (hx22007_6.symm.trans hv22006_6);injection E_ with e1_ e2_ e3_;(try subst e1_);(try subst e3_)))
      (try (have E_:=zi (hx22007_6.symm.trans hv22007_6);injection E_ with e1_ e2_ e3_;(try subst e1_);(try subst e3_)))
      (try (have E_:=zi (hx22007_6.symm.trans hv22009_6);injection E_ with e1_ e2_ e3_;(try subst e1_);(try subst e3_)))
      have hv22007_6:=hx22007_6
      replace hx22007_0:=zx HB.out hx22007_0
      replace hx22007_1:=zx HB.out hx22007_1
      replace hx22007_2:=zx HB.out hx22007_2
      replace hx22007_3:=zx HB.out hx22007_3
      replace hx22007_4:=zx HB.out hx22007_4
      replace hx22007_5:=zx HB.out hx22007_5
      replace hx22007_6:=zx HB.out hx22007_6
      replace hx22007_7:=zx HB.out hx22007_7
      have HR22007_5:=zk hi22007_5
      have HC22007_5:=zk hl22007_5
      clear hi22007_5 hl22007_5
      have HR22007_6:=zk hi22007_6
      have HC22007_6:=zk hl22007_6
      clear hi22007_6 hl22007_6
      replace p22007:=eq_true p22007
      replace q22007:=eq_true q22007
      refine start_ (n:=9) (S:=fun w'=>w'.cell? (ad22001.add ((x5_1).toNat * 8))=some (.int .i64 ((rd_T46 l0 x5_1).f0))∧w'.cell? ⟨(ad22001.add ((x5_1).toNat * 8)).block,(ad22001.add ((x5_1).toNat * 8)).off+1,none⟩=some (.string ((rd_T46 l0 x5_1).f1))∧w'.cell? ⟨(ad22001.add ((x5_1).toNat * 8)).block,(ad22001.add ((x5_1).toNat * 8)).off+2,none⟩=some (.string ((rd_T46 l0 x5_1).f2))∧w'.cell? ⟨(ad22001.add ((x5_1).toNat * 8)).block,(ad22001.add ((x5_1).toNat * 8)).off+3,none⟩=some (.int .i64 ((rd_T46 l0 x5_1).f3.f0))∧w'.cell? ⟨(ad22001.add ((x5_1).toNat * 8)).block,(ad22001.add ((x5_1).toNat * 8)).off+4,none⟩=some (.string ((rd_T46 l0 x5_1).f3.f1))∧w'.cell? ⟨(ad22001.add ((x5_1).toNat * 8)).block,(ad22001.add ((x5_1).toNat * 8)).off+5,none⟩=some (.slice A22007_5 ((rd_T46 l0 x5_1).f3.f2).length c22007_5)∧w'.cell? ⟨(ad22001.add ((x5_1).toNat * 8)).block,(ad22001.add ((x5_1).toNat * 8)).off+6,none⟩=some (.slice A22007_6 ((rd_T46 l0 x5_1).f4).length c22007_6)∧w'.cell? ⟨(ad22001.add ((x5_1).toNat * 8)).block,(ad22001.add ((x5_1).toNat * 8)).off+7,none⟩=some (.int .i64 ((rd_T46 l0 x5_1).f5))) (ds:=[]) #[false,false,false,false,false,false,false,false,false] (by kernel_rfl) rfl rfl ⟨((HB.out.cell (World.block_lt_of_cell? w _ hw22007_0)).trans hw22007_0),((HB.out.cell (World.block_lt_of_cell? w _ hw22007_1)).trans hw22007_1),((HB.out.cell (World.block_lt_of_cell? w _ hw22007_2)).trans hw22007_2),((HB.out.cell (World.block_lt_of_cell? w _ hw22007_3)).trans hw22007_3),((HB.out.cell (World.block_lt_of_cell? w _ hw22007_4)).trans hw22007_4),((HB.out.cell (World.block_lt_of_cell? w _ hw22007_5)).trans hw22007_5),((HB.out.cell (World.block_lt_of_cell? w _ hw22007_6)).trans hw22007_6),((HB.out.cell (World.block_lt_of_cell? w _ hw22007_7)).trans hw22007_7)⟩ (fun hHeld=>?_);refine with_tabW laws_heldConstraintS.tab16 laws_heldConstraintS.bits16 (fun HT_ HW_=>?_)
      generalize w35.drew=w36 at HB HR22007_5 HR22007_6 hx22007_0 hx22007_1 hx22007_2 hx22007_3 hx22007_4 hx22007_5 hx22007_6 hx22007_7 hHeld ⊢
      refine zy 0 (some 51) HT_.out ?_
      refine zy 1 (some 52) HT_.out ?_
      refine zy 2 (some 53) HT_.out ?_
      refine zy 3 (some 54) HT_.out ?_
      refine zy 4 (some 55) HT_.out ?_
      refine zy 6 (some 57) HT_.out ?_
      refine ztk 5 (some 56) HT_.out HW_.out hHeld ?_
      refine zon 7 (some 58) HT_.out (fun K hK=>?_)
      refine goes_ Try.func32 (by kernel_rfl) rfl #[.int .i64 (wrap64 ((wrap64 ((wrap64 ((wrap64 (x1_1+1))+1))+1))+1))] (by rfl) rfl rfl za6 ?_
      with_reducible refine (laws_markText.calls k1 (wrap64 ((wrap64 ((wrap64 ((wrap64 (x1_1+1))+1))+1))+1)) t8 _ A11.out).mono ?_
      rintro e w37 ⟨rfl,hb⟩
      refine ⟨_,rfl,?_⟩
      replace HB:=yB HB hb
      (try clear hb)
      (try clear hb2)
      (try clear hk)
      (try clear hi)
      refine hK.out _ _ ⟨((HB.out.cell (World.block_lt_of_cell? w _ hw22007_0)).trans hw22007_0),((HB.out.cell (World.block_lt_of_cell? w _ hw22007_1)).trans hw22007_1),((HB.out.cell (World.block_lt_of_cell? w _ hw22007_2)).trans hw22007_2),((HB.out.cell (World.block_lt_of_cell? w _ hw22007_3)).trans hw22007_3),((HB.out.cell (World.block_lt_of_cell? w _ hw22007_4)).trans hw22007_4),((HB.out.cell (World.block_lt_of_cell? w _ hw22007_5)).trans hw22007_5),((HB.out.cell (World.block_lt_of_cell? w _ hw22007_6)).trans hw22007_6),((HB.out.cell (World.block_lt_of_cell? w _ hw22007_7)).trans hw22007_7)⟩ (fun hHeld=>?_)
      clear hK K
      refine zno (some 58) ?_
      refine zy 8 (some 59) HT_.out ?_
      refine done_ (done_of HT_.out (by kernel_rfl)) ?_
      have p22009:0≤(x5_1:Int):=of_decide_eq_true za7
      have q22009:x5_1 < (l0.length:Int):=of_decide_eq_true za7
      obtain ⟨ad22009,A22009_5,c22009_5,A22009_6,c22009_6,e22009,hx22009_0,hx22009_1,hx22009_2,hx22009_3,hx22009_4,hx22009_5,hx22009_6,hx22009_7,hl22009_5,hi22009_5,hl22009_6,hi22009_6⟩:=at_T46 HR0.out x5_1 p22009 q22009
      obtain rfl:ad22001=ad22009:=(by injection e22009)
      (try (have E_:=zi (hx22009_5.symm.trans hv22001_5);injection E_ with e1_ e2_ e3_;(try subst e1_);(try subst e3_)))
      (try (have E_:=zi (hx22009_5.symm.trans hv22002_5);injection E_ with e1_ e2_ e3_;(try subst e1_);(try subst e3_)))
      (try (have E_:=zi (hx22009_5.symm.trans hv22004_5);injection E_ with e1_ e2_ e3_;(try subst e1_);(try subst e3_)))
      (try (have E_:=zi (hx22009_5.symm.trans hv22006_5);injection E_ with e1_ e2_ e3_;(try subst e1_);(try subst e3_)))
      (try (have E_:=zi (hx22009_5.symm.trans hv22007_5);injection E_ with e1_ e2_ e3_;(try subst e1_);(try subst e3_)))
      (try (have E_:=zi (hx22009_5.symm.trans hv22009_5);injection E_ with e1_ e2_ e3_;(try subst e1_);(try subst e3_)))
      have hv22009_5:=hx22009_5
      (try (have E_:=zi (hx22009_6.symm.trans hv22001_6);injection E_ with e1_ e2_ e3_;(try subst e1_);(try subst e3_)))
      (try (have E_:=zi (hx22009_6.symm.trans hv22002_6);injection E_ with e1_ e2_ e3_;(try subst e1_);(try subst e3_)))
      (try (have E_:=zi (hx22009_6.symm.trans hv22004_6);injection E_ with e1_ e2_ e3_;(try subst e1_);(try subst e3_)))
      (try (have E_:=zi (hx22009_6.symm.trans hv22006_6);injection E_ with e1_ e2_ e3_;(try subst e1_);(try subst e3_)))
      (try (have E_:=zi (hx22009_6.symm.trans hv22007_6);injection E_ with e1_ e2_ e3_;(try subst e1_);(try subst e3_)))
      (try (have E_:=zi (hx22009_6.symm.trans hv22009_6);injection E_ with e1_ e2_ e3_;(try subst e1_);(try subst e3_)))
      have hv22009_6:=hx22009_6
      replace hx22009_0:=zx HB.out hx22009_0
      replace hx22009_1:=zx HB.out hx22009_1
      replace hx22009_2:=zx HB.out hx22009_2
      replace hx22009_3:=zx HB.out hx22009_3
      replace hx22009_4:=zx HB.out hx22009_4
      replace hx22009_5:=zx HB.out hx22009_5
      replace hx22009_6:=zx HB.out hx22009_6
      replace hx22009_7:=zx HB.out hx22009_7
      have HR22009_5:=zk hi22009_5
      have HC22009_5:=zk hl22009_5
      clear hi22009_5 hl22009_5
      have HR22009_6:=zk hi22009_6
      have HC22009_6:=zk hl22009_6
      clear hi22009_6 hl22009_6
      replace p22009:=eq_true p22009
      replace q22009:=eq_true q22009
      try go_wp2_with (first|((with_reducible refine gate_callee (f:=35) rfl ?_);refine zg (some 69) Try.func35 #[.slice A22009_5 ((rd_T46 l0 x5_1).f3.f2).length c22009_5,.int .i64 (wrap64 ((wrap64 ((wrap64 ((wrap64 ((wrap64 (x1_1+1))+1))+1))+1))+1))] rfl za6 ?_;(with_reducible refine (laws_heldRegexS.calls k1 _ _ ((rd_T46 l0 x5_1).f3.f2) (wrap64 ((wrap64 ((wrap64 ((wrap64 ((wrap64 (x1_1+1))+1))+1))+1))+1)) t10 _ ?side1 ?side2 A13.out).mono ?_);(case side1=>repeat (first|exact (Kd.C_below HR22009_5.out HB.out)|(with_reducible refine Kd.C_alloc ?_ _)|(with_reducible refine Kd.C_drewN ?_ _)|(with_reducible refine Kd.C_drew ?_)));(case side2=>exact HC22009_5.out);rintro e w38 ⟨rfl,hb⟩;refine ⟨_,rfl,?_⟩;replace HB:=yB HB hb;(try clear hb);have p22011:0≤(x5_1:Int):=of_decide_eq_true za7;have q22011:x5_1 < (l0.length:Int):=of_decide_eq_true za7;obtain ⟨ad22011,A22011_5,c22011_5,A22011_6,c22011_6,e22011,hx22011_0,hx22011_1,hx22011_2,hx22011_3,hx22011_4,hx22011_5,hx22011_6,hx22011_7,hl22011_5,hi22011_5,hl22011_6,hi22011_6⟩:=at_T46 HR0.out x5_1 p22011 q22011;obtain rfl:ad22001=ad22011:=(by injection e22011);replace hx22011_0:=zx HB.out hx22011_0;replace hx22011_1:=zx HB.out hx22011_1;replace hx22011_2:=zx HB.out hx22011_2;replace hx22011_3:=zx HB.out hx22011_3;replace hx22011_4:=zx HB.out hx22011_4;replace hx22011_5:=zx HB.out hx22011_5;replace hx22011_6:=zx HB.out hx22011_6;replace hx22011_7:=zx HB.out hx22011_7;have HR22011_5:=zk hi22011_5;have HC22011_5:=zk hl22011_5;clear hi22011_5 hl22011_5;have HR22011_6:=zk hi22011_6;have HC22011_6:=zk hl22011_6;clear hi22011_6 hl22011_6;replace p22011:=eq_true p22011;replace q22011:=eq_true q22011)|((with_reducible refine gate_callee (f:=36) rfl ?_);refine zg (some 78) Try.func36 #[.slice A22011_6 ((rd_T46 l0 x5_1).f4).length c22011_6,.int .i64 t10] rfl za6 ?_;(with_reducible refine (laws_heldIntS.calls k1 _ _ ((rd_T46 l0 x5_1).f4) t10 t12 _ ?side1 ?side2 A22.out).mono ?_);(case side1=>repeat (first|exact (Kd.C_below HR22011_6.out HB.out)|(with_reducible refine Kd.C_alloc ?_ _)|(with_reducible refine Kd.C_drewN ?_ _)|(with_reducible refine Kd.C_drew ?_)));(case side2=>exact HC22011_6.out);rintro e w' ⟨rfl,⟨nd,rfl⟩⟩;refine ⟨_,rfl,?_⟩;have p22013:0≤(x5_1:Int):=of_decide_eq_true za7;have q22013:x5_1 < (l0.length:Int):=of_decide_eq_true za7;obtain ⟨ad22013,A22013_5,c22013_5,A22013_6,c22013_6,e22013,hx22013_0,hx22013_1,hx22013_2,hx22013_3,hx22013_4,hx22013_5,hx22013_6,hx22013_7,hl22013_5,hi22013_5,hl22013_6,hi22013_6⟩:=at_T46 HR0.out x5_1 p22013 q22013;obtain rfl:ad22001=ad22013:=(by injection e22013);replace hx22013_0:=zx HB.out hx22013_0;replace hx22013_1:=zx HB.out hx22013_1;replace hx22013_2:=zx HB.out hx22013_2;replace hx22013_3:=zx HB.out hx22013_3;replace hx22013_4:=zx HB.out hx22013_4;replace hx22013_5:=zx HB.out hx22013_5;replace hx22013_6:=zx HB.out hx22013_6;replace hx22013_7:=zx HB.out hx22013_7;have HR22013_5:=zk hi22013_5;have HC22013_5:=zk hl22013_5;clear hi22013_5 hl22013_5;have HR22013_6:=zk hi22013_6;have HC22013_6:=zk hl22013_6;clear hi22013_6 hl22013_6;replace p22013:=eq_true p22013;replace q22013:=eq_true q22013;have ea_:=zi (hx22011_5.symm.trans hx22013_5);injection ea_ with ea_ en_ ec_;subst ea_;subst ec_;clear en_;have ea_:=zi (hx22011_6.symm.trans hx22013_6);injection ea_ with ea_ en_ ec_;subst ea_;subst ec_;clear en_))
      first
      | (
       clear fin0_
       go_roundg k1
       case measure=>have:=HK1.out;omega
       case rel=>exact ⟨(wrap64 (t12+1)),(wrap64 (x5_1+1)),za9,za9,H',⟨za11⟩,⟨za5⟩⟩)
      | (
       clear fin1_
       go_ret
       exact ⟨za8,za5⟩))
    | (
      clear tag1_
      go_wp2
      go_ret
      exact ⟨za8,za5⟩)
def laws_heldProblem.f (k:Nat) (l0_0:List (S46)) (a1:Int):Option (Int):=(laws_heldConstraintS.f k l0_0 a1).bind fun t10002=>(if t10002 < 0 then (some (-1)) else (some t10002))
theorem laws_heldProblem.calls (k:Nat) (A0_0:Option Addr) (c0_0:Nat) (l0_0:List (S46)) (a1:Int) (r:Int) (w:World) (hr0_0:Kd.C k46 w A0_0 l0_0.length l0_0) (hc0_0:l0_0.length≤c0_0) (h:laws_heldProblem.f k l0_0 a1=some r) :
   Calls Try.prog 10 #[.agg #[.slice A0_0 l0_0.length c0_0],.int .i64 a1] w fun e w'=>e = .returned (.int .i64 r)∧Below w.heap.size w w':=by
 have hu28:=Try.underlying28
 have HR0_0:=zk hr0_0
 have HC0_0:=zk hc0_0
 clear hr0_0 hc0_0
 have HB:=zk (Below.refl w.heap.size w)
 have H:=h
 unfold laws_heldProblem.f at H
 clear h
 obtain ⟨t2,A3,H⟩:=zO H
 try dsimp only at H
 by_cases c4:t2 < 0
 rw [if_pos c4] at H
 have c4b0:=zdl c4
 rotate_left
 rw [if_neg c4] at H
 have c4b0:=zdnl c4
 rotate_left
 all_goals
  clear c4
  obtain rfl:=zi H
  go_enter Try.func10,Try.ntmps10
  go_wp2_with (first|((with_reducible refine gate_dst (N:=2) rfl ?_);refine zE (cs:=#[.slice A0_0 l0_0.length c0_0]) (t:=28) ?_;intro gb1 hg w8 hbox hb;have BK1:=zk hbox;have GW1:=zk (zs (w:=w) hg za5);have GE1:=GW1;replace HB:=yB HB hb;clear hb hbox hg;obtain ⟨hcz9_0,hfz9_0⟩:=blk1 BK1.out)|((with_reducible refine gate_callee (f:=22) rfl ?_);refine zg (some 8) Try.func22 #[.slice A0_0 l0_0.length c0_0,.int .i64 a1] rfl za6 ?_;(with_reducible refine (laws_heldConstraintS.calls k _ _ l0_0 a1 t2 _ ?side1 ?side2 A3.out).mono ?_);(case side1=>repeat (first|exact (Kd.C_below HR0_0.out HB.out)|(with_reducible refine Kd.C_alloc ?_ _)|(with_reducible refine Kd.C_drewN ?_ _)|(with_reducible refine Kd.C_drew ?_)));(case side2=>exact HC0_0.out);rintro e w10 ⟨rfl,hb⟩;refine ⟨_,rfl,?_⟩;replace BK1:=yb BK1 hb;replace HB:=yB HB hb;(try clear hb)))
  go_ret
  exact ⟨za8,za5⟩
end Go.Proofs.Yteolnmoomeenbaa.A
