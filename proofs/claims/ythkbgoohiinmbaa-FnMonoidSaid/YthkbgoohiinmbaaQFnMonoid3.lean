/- FnMonoid: what its proof needs, put together by this session's program wip/merge.py out of the texts that wip/xp.py printed and of this session's own. -/
import Derived.Test.YthkbgoohiinmbaaQFnMonoid2
set_option linter.unusedVariables false
set_option linter.unusedSimpArgs false
set_option linter.unusedSectionVars false
set_option maxHeartbeats 8000000
set_option maxRecDepth 100000
namespace Go.Proofs.Ythkbgoohiinmbaa.A
open Go.RowKit Ythkbgoohiinmbaa.Ext YthkbgoohiinmbaaW.PrintWords YthkbgoohiinmbaaW.PrintLast YthkbgoohiinmbaaW.PrintMore
attribute [local go_sem] max2_int min2_int max_two min_two max_three min_three max_four min_four
theorem R_at_q {α:Type} {d:Kd α} {e base m:Nat} {ok:Nat→Prop} {w w2:World} {v:Value} {xs:List α} (h:Kd.R d e w base ok v xs) (hq:w.drewN m=w2):Kd.R d e w2 base ok v xs:=hq ▸ Kd.R_drewN h m
theorem S_at_q {α:Type} {d:Kd α} {e base m:Nat} {ok:Nat→Prop} {w w2:World} {v:Value} {xs:List α} (h:Kd.S d e w base ok v xs) (hq:w.drewN m=w2):Kd.S d e w2 base ok v xs:=hq ▸ Kd.S_drewN h m
mutual
def spec_BuildMonoid.l0:Nat→List Int→Int→List Bool→List (List Int)→Option ((List (List Int)) × List Int × (List (List Int)) × Bool)
 | 0,_,_,_,_=>none
 | k+1,x4,x5,x7002000,x7002001=>if x5 < (x7002000.length:Int) then (if x4.length < 17592186044416 then (spec_BuildMonoid.l0 k (x4 ++ [x5]) (wrap64 (x5+1)) x7002000 x7002001) else (none)) else (if ([]:List (List Int)).length < 5864062014805 then ((spec_l13Letters.f k x7002000 x7002001).bind fun t7014=>(spec_BuildMonoid.l1 k t7014 0 (([]:List (List Int)) ++ [x4]))) else (none))
def spec_BuildMonoid.l1:Nat→List (List Int)→Int→List (List Int)→Option ((List (List Int)) × List Int × (List (List Int)) × Bool)
 | 0,_,_,_=>none
 | k+1,x7,x8,x7014000=>if x8 < (x7014000.length:Int) then (spec_BuildMonoid.l2 k x7 x8 0 x7014000) else (spec_BuildMonoid.l3 k x7 0 x7014000 ([]:List Int))
def spec_BuildMonoid.l2:Nat→List (List Int)→Int→Int→List (List Int)→Option ((List (List Int)) × List Int × (List (List Int)) × Bool)
 | 0,_,_,_,_=>none
 | k+1,x7,x8,x9,x7014000=>if x9 < (x7.length:Int) then (if 0≤x8 then (if x8 < (x7014000.length:Int) then (if 0≤x9 then ((spec_l13After.f k (rd_L3 x7014000 x8) (rd_L3 x7 x9)).bind fun t7019=>((spec_l13Find.f k x7014000 t7019).bind fun t7022=>(if t7022 < 0 then (if x7014000.length < 5864062014805 then (spec_BuildMonoid.l2 k x7 x8 (wrap64 (x9+1)) (x7014000 ++ [t7019])) else (none)) else (spec_BuildMonoid.l2 k x7 x8 (wrap64 (x9+1)) x7014000)))) else (none)) else (none)) else (none)) else (if (x7014000.length:Int) > 30 then (some (([]:List (List Int)),([]:List Int),([]:List (List Int)),false)) else (spec_BuildMonoid.l1 k x7 (wrap64 (x8+1)) x7014000))
def spec_BuildMonoid.l3:Nat→List (List Int)→Int→List (List Int)→List Int→Option ((List (List Int)) × List Int × (List (List Int)) × Bool)
 | 0,_,_,_,_=>none
 | k+1,x7,x11,x7014000,x7014001=>if x11 < (x7.length:Int) then (if 0≤x11 then ((spec_l13Find.f k x7014000 (rd_L3 x7 x11)).bind fun t7027=>(if x7014001.length < 17592186044416 then (spec_BuildMonoid.l3 k x7 (wrap64 (x11+1)) x7014000 (x7014001 ++ [t7027])) else (none))) else (none)) else (spec_BuildMonoid.l4 k 0 x7014000 x7014001 ([]:List (List Int)))
def spec_BuildMonoid.l4:Nat→Int→List (List Int)→List Int→List (List Int)→Option ((List (List Int)) × List Int × (List (List Int)) × Bool)
 | 0,_,_,_,_=>none
 | k+1,x12,x7014000,x7014001,x7014002=>if x12 < (x7014000.length:Int) then (spec_BuildMonoid.l5 k x12 (([]:List Int)) 0 x7014000 x7014001 x7014002) else (some (x7014000,x7014001,x7014002,true))
def spec_BuildMonoid.l5:Nat→Int→List Int→Int→List (List Int)→List Int→List (List Int)→Option ((List (List Int)) × List Int × (List (List Int)) × Bool)
 | 0,_,_,_,_,_,_=>none
 | k+1,x12,x13,x14,x7014000,x7014001,x7014002=>if x14 < (x7014000.length:Int) then (if 0≤x12 then (if x12 < (x7014000.length:Int) then (if 0≤x14 then ((spec_l13After.f k (rd_L3 x7014000 x12) (rd_L3 x7014000 x14)).bind fun t7036=>((spec_l13Find.f k x7014000 t7036).bind fun t7039=>(if x13.length < 17592186044416 then (spec_BuildMonoid.l5 k x12 (x13 ++ [t7039]) (wrap64 (x14+1)) x7014000 x7014001 x7014002) else (none)))) else (none)) else (none)) else (none)) else (if x7014002.length < 5864062014805 then (spec_BuildMonoid.l4 k (wrap64 (x12+1)) x7014000 x7014001 (x7014002 ++ [x13])) else (none))
end
def spec_BuildMonoid.f (k:Nat) (l0_0:List Bool) (l0_1:List (List Int)):Option ((List (List Int)) × List Int × (List (List Int)) × Bool):=(spec_IsValidDfa.f k l0_0 l0_1).bind fun t7003=>(if t7003=true then (spec_BuildMonoid.l0 k (([]:List Int)) 0 l0_0 l0_1) else (some (([]:List (List Int)),([]:List Int),([]:List (List Int)),false)))
def spec_BuildMonoid.T16:Bool × List (List Nat × List Nat):=(true,[([],[]),([0],[0]),([],[]),([1,2],[1,2]),([3],[3]),([],[]),([],[]),([5,6],[5,6]),([7],[7]),([4,8],[4,8]),([9,9,0,1,2,3,4,5,6,7,8,9],[9])])
def spec_BuildMonoid.B16:List Nat:=[0,1,0,7,15,0,0,96,224,511,1023]
theorem spec_BuildMonoid.tab16:rtab .any (opsOf Try.f7 16)=spec_BuildMonoid.T16:=by kernel_rfl
theorem spec_BuildMonoid.bits16:waitsOk spec_BuildMonoid.T16.2 spec_BuildMonoid.B16=true:=by kernel_rfl
def spec_BuildMonoid.T24:Bool × List (List Nat × List Nat):=(true,[([],[]),([0],[0]),([],[]),([2],[2]),([],[]),([],[]),([4,5],[4,5]),([6],[6]),([3,7],[3,7]),([8],[8]),([1,9,8],[1,9]),([0,1,2,3,4,5,6,7,8,9,10],[]),([11,10,10,0,1,2,3,4,5,6,7,8,9,10],[10,11])])
def spec_BuildMonoid.B24:List Nat:=[0,1,0,4,0,0,48,112,252,508,1023,2047,4095]
theorem spec_BuildMonoid.tab24:rtab .any (opsOf Try.f7 24)=spec_BuildMonoid.T24:=by kernel_rfl
theorem spec_BuildMonoid.bits24:waitsOk spec_BuildMonoid.T24.2 spec_BuildMonoid.B24=true:=by kernel_rfl
def spec_BuildMonoid.T32:Bool × List (List Nat × List Nat):=(true,[([],[]),([],[]),([1],[1]),([],[]),([3],[3]),([],[]),([4,5],[4,5]),([6],[6]),([],[]),([8],[8]),([],[]),([9,10],[9,10]),([11],[11]),([7,12],[7,12]),([2,13,13],[2,13]),([14],[14]),([0,15,14],[0,15]),([16,16,0,1,2,3,4,5,6,7,8,9,10,11,12,13,14,15,16],[0,16])])
def spec_BuildMonoid.B32:List Nat:=[0,0,2,0,8,0,56,120,0,256,0,1792,3840,8184,16382,32766,65535,131071]
theorem spec_BuildMonoid.tab32:rtab .any (opsOf Try.f7 32)=spec_BuildMonoid.T32:=by kernel_rfl
theorem spec_BuildMonoid.bits32:waitsOk spec_BuildMonoid.T32.2 spec_BuildMonoid.B32=true:=by kernel_rfl
theorem spec_BuildMonoid.apart (k:Nat) (A0_0:Option Addr) (c0_0:Nat) (l0_0:List Bool) (A0_1:Option Addr) (c0_1:Nat) (l0_1:List (List Int)) (r1:List (List Int)) (r2:List Int) (r3:List (List Int)) (r4:Bool) (w:World) (hr0_0:Kd.C Kd.bool w A0_0 l0_0.length l0_0) (hc0_0:l0_0.length≤c0_0) (hr0_1:Kd.C (Kd.slice 3 (Kd.int .i64)) w A0_1 l0_1.length l0_1) (hc0_1:l0_1.length≤c0_1) (h:spec_BuildMonoid.f k l0_0 l0_1=some (r1,r2,r3,r4)) :
  Calls Try.prog 7 #[.agg #[.slice A0_0 l0_0.length c0_0,.slice A0_1 l0_1.length c0_1]] w fun e w'=>∃ (T_:Nat) (v0_ v1_ v2_:Value),e = .returned (.tuple #[.agg #[v0_,v1_,v2_],.bool r4])∧Kd.S (Kd.slice 3 (Kd.int .i64)) 29 w' w.heap.size (fun k_=>(some k_ ≠ (v1_:Value).ownBlock∧some k_ ≠ (v2_:Value).ownBlock)∧k_ < T_) v0_ r1∧Kd.R (Kd.int .i64) 3 w' w.heap.size (fun _=>True) v1_ r2∧Kd.S (Kd.slice 3 (Kd.int .i64)) 29 w' T_ (fun k_=>some k_ ≠ (v0_:Value).ownBlock∧some k_ ≠ (v1_:Value).ownBlock) v2_ r3∧w.heap.size≤T_∧Below w.heap.size w w':=by
 have hu27:=Try.underlying27
 have hu31:=Try.underlying31
 have HR0_0:=zk hr0_0
 have HC0_0:=zk hc0_0
 clear hr0_0 hc0_0
 have HR0_1:=zk hr0_1
 have HC0_1:=zk hc0_1
 clear hr0_1 hc0_1
 have HB:=zk (Below.refl w.heap.size w)
 have H:=h
 unfold spec_BuildMonoid.f at H
 clear h
 obtain ⟨t3,A2,H⟩:=zO H
 try dsimp only at H
 by_cases c3:t3=true
 ·subst c3
  rw [if_pos rfl] at H
  try dsimp only at H
  obtain ⟨y7004,hy7004⟩:∃ y_:List Int,y_=(([]:List Int)):=⟨_,rfl⟩
  replace H:(spec_BuildMonoid.l0 k y7004 0 l0_0 l0_1)=some (r1,r2,r3,r4):=by first|(rw [hy7004];with_reducible exact H)|(have H2_:=(Option.bind_some _ _).symm.trans H;rw [hy7004];with_reducible exact H2_)|(have H2_:=(Option.bind_some _ _).symm.trans H;with_reducible exact H2_)|with_reducible exact H|(rw [hy7004];exact H)|exact H
  have Ny4:=zk hy7004
  clear hy7004
  have H':=zk H
  clear H
  go_enter Try.func7,Try.ntmps7
  go_wp2_with (first|((with_reducible refine gate_dst (N:=1) rfl ?_);refine zE (cs:=#[.slice A0_0 l0_0.length c0_0,.slice A0_1 l0_1.length c0_1]) (t:=27) ?_;intro gb1 hg w4 hbox hb;have BK1:=zk hbox;have GW1:=zk (zs (w:=w) hg za23);have GE1:=GW1;replace HB:=yB HB hb;clear hb hbox hg)|((with_reducible refine gate_dst (N:=2) rfl ?_);refine zE (cs:=#[.slice none 0 0,.slice none 0 0,.slice none 0 0]) (t:=31) ?_;intro gb2 hg w5 hbox hb;have BK2:=zk hbox;have GW2:=zk (zs (w:=w) hg za31);have GE2:=GW2;have NB1_2:=yn hg BK1;have NB2_1:=yp hg BK1;replace BK1:=yb BK1 hb;replace HB:=zk (below_step za31 hb);clear hb hbox hg;have hnb6:=NB1_2.out;have hnc6:=NB2_1.out;have hcz7_0:w5.cell? ⟨gb1,0,none⟩=some (.slice A0_0 l0_0.length c0_0):=(blk_cell BK1.out 0).trans rfl;have hcz7_1:w5.cell? ⟨gb1,1,none⟩=some (.slice A0_1 l0_1.length c0_1):=(blk_cell BK1.out 1).trans rfl;have hfz7_0:=blk_frozen BK1.out 0;have hfz7_1:=blk_frozen BK1.out 1)|((with_reducible refine gate_callee (f:=26) rfl ?_);refine zg (some 16) Try.func26 #[.agg #[.slice A0_0 l0_0.length c0_0,.slice A0_1 l0_1.length c0_1]] rfl za4 ?_;(with_reducible refine (spec_IsValidDfa.calls k _ _ l0_0 _ _ l0_1 true _ ?side1 ?side2 ?side3 ?side4 A2.out).mono ?_);(case side1=>repeat (first|exact (Kd.C_below HR0_0.out HB.out)|(with_reducible refine Kd.C_alloc ?_ _)|(with_reducible refine Kd.C_drewN ?_ _)|(with_reducible refine Kd.C_drew ?_)));(case side2=>exact HC0_0.out);(case side3=>repeat (first|exact (Kd.C_below HR0_1.out HB.out)|(with_reducible refine Kd.C_alloc ?_ _)|(with_reducible refine Kd.C_drewN ?_ _)|(with_reducible refine Kd.C_drew ?_)));(case side4=>exact HC0_1.out);rintro e w8 ⟨rfl,hb⟩;refine ⟨_,rfl,?_⟩;replace BK1:=yb BK1 hb;replace BK2:=yb BK2 hb;replace HB:=zk (below_step za24 hb);(try clear hb))|((with_reducible refine gate_dst (N:=19) rfl ?_);refine Kd.R_lit (Kd.int .i64) _ 3 ?hg (N:=19) ?hd (xs:=([]:List Int)) (inner:=[]) (ok:=fun _=>True) (okp:=fun _=>True) ?hr ?hp (fun _ hk=>hk) trivial (Below.refl _ _) (Nat.le_refl _) (by simp) ?_;(case hd=>rfl);(case hg=>rfl);(case hr=>first|(go_simp;done)|(go_simp;rfl));(case hp=>exact (Reps.none _ _));intro v7005 w9 ho10 hb hg_ hnew_;clear hg_ hnew_;(first|rw [← Ny4.out] at ho10|(simp only [Int.reduceToNat] at ho10;rw [← Ny4.out] at ho10));have HO6:=zk (Kd.R_lower ho10 (below_size za24));replace BK1:=yb BK1 hb;replace BK2:=yb BK2 hb;replace HB:=zk (below_step za24 hb);clear hb ho10))
  try simp only [Act.put,zt,zv,zu]
  go_loopg [4,5] k (fun kq v4 v5 w'=>∃ (x4_1:List Int) (x5_1:Int),v5 = .int .i64 x5_1∧Aside0 (spec_BuildMonoid.l0 kq x4_1 x5_1 l0_0 l0_1=some (r1,r2,r3,r4))∧Aside0 (kq≤k)∧Aside0 (Kd.R (Kd.int .i64) 3 w' w.heap.size (fun _=>True) v4 x4_1)∧Aside0 (w'.heap[gb1]? = some (.cells #[(.slice A0_0 l0_0.length c0_0),(.slice A0_1 l0_1.length c0_1)] 27 (0,0)))∧Aside0 (w'.heap[gb2]? = some (.cells #[(.slice none 0 0),(.slice none 0 0),(.slice none 0 0)] 31 (0,0)))∧Aside0 (Below w.heap.size w w'))
  case atStart=>exact ⟨(y7004),(0),za13,H',⟨Nat.le_refl _⟩,⟨za1 HO6.out⟩,⟨za0 BK1.out⟩,⟨za0 BK2.out⟩,⟨za24⟩⟩
  case round =>
   clear H'
   try clear c2
   try clear p2
   try clear c3
   try clear c6
   try clear c7
   try clear hcz7_0
   try clear hcz7_1
   try clear hfz7_0
   try clear hfz7_1
   obtain ⟨x4_1,x5_1,rfl,HA,HK1,HO_4,BK1,BK2,HB⟩:=hrel
   cases gk with
   | zero=>exact absurd HA.out (by simp [spec_BuildMonoid.l0])
   | succ k1 =>
    have H:=HA.out
    clear HA
    simp only [spec_BuildMonoid.l0] at H
    by_cases c11:x5_1 < (l0_0.length:Int)
    ·rw [if_pos c11] at H
     have c11b0:=zdl c11
     clear c11
     by_cases c12:x4_1.length < 17592186044416
     ·rw [if_pos c12] at H
      have LMc12:=zk c12
      clear c12
      obtain ⟨y7007,hy7007⟩:∃ y_:List Int,y_=(x4_1 ++ [x5_1]):=⟨_,rfl⟩
      replace H:(spec_BuildMonoid.l0 k1 y7007 (wrap64 (x5_1+1)) l0_0 l0_1)=some (r1,r2,r3,r4):=by first|(rw [hy7007];with_reducible exact H)|(have H2_:=(Option.bind_some _ _).symm.trans H;rw [hy7007];with_reducible exact H2_)|(have H2_:=(Option.bind_some _ _).symm.trans H;with_reducible exact H2_)|with_reducible exact H|(rw [hy7007];exact H)|exact H
      have Ny7:=zk hy7007
      clear hy7007
      have H':=zk H
      clear H
      have hnb13:=NB1_2.out
      have hnc13:=NB2_1.out
      have hcz14_0:wr.cell? ⟨gb1,0,none⟩=some (.slice A0_0 l0_0.length c0_0):=(blk_cell BK1.out 0).trans rfl
      have hcz14_1:wr.cell? ⟨gb1,1,none⟩=some (.slice A0_1 l0_1.length c0_1):=(blk_cell BK1.out 1).trans rfl
      have hfz14_0:=blk_frozen BK1.out 0
      have hfz14_1:=blk_frozen BK1.out 1
      go_wp2_with (first|((with_reducible refine gate_builtin (b:=.append) (xs:=#[.tmp 27,.tmp 29]) rfl ?_);at_builtin;refine Kd.R_append (Kd.int .i64) (w0:=w) w.heap.size rfl (.tmp 27) (.tmp 29) 29 3 (.int .i64 0) 8 rfl Try.underlying29 info3 rfl (by decide) (by omega) u4 x4_1 x5_1 [.int .i64 x5_1] (fun _=>True) (fun _=>False) rfl rfl ?aP (fun _ hk=>hk.elim) ?aF ?aO ?aB ?aS ?aL ?_;(case aP=>exact rfl);(case aB=>exact za24);(case aF=>exact (fun _ _=>trivial));(case aO=>exact (za1 HO_4.out));(case aS=>exact (below_size za24));(case aL=>have:=LMc12.out;omega);intro v7008 w15 ho hb hg hat;rw [← Ny7.out] at ho;replace BK1:=zk (blk_grown (g:=gb1) (o:=.cells #[.slice A0_0 l0_0.length c0_0,.slice A0_1 l0_1.length c0_1] 27 (0,0)) (za0 BK1.out) hg (Kd.R_ne HO_4.out BK1.out (by decide)));replace BK2:=zk (blk_grown (g:=gb2) (o:=.cells #[.slice none 0 0,.slice none 0 0,.slice none 0 0] 31 (0,0)) (za0 BK2.out) hg (Kd.R_ne HO_4.out BK2.out (by decide)));replace HB:=zk hb;have HO9:=zk ho;clear HO_4;clear ho hb hg hat))
      go_roundg k1
      case measure=>have:=HK1.out;omega
      case rel=>exact ⟨(y7007),(wrap64 (x5_1+1)),za13,H',⟨za61⟩,⟨za1 HO9.out⟩,⟨za0 BK1.out⟩,⟨za0 BK2.out⟩,⟨za24⟩⟩
     ·rw [if_neg c12] at H
      exact absurd H (by simp)
    ·rw [if_neg c11] at H
     have c11b0:=zdnl c11
     clear c11
     by_cases c16:([]:List (List Int)).length < 5864062014805
     ·rw [if_pos c16] at H
      have LMc16:=zk c16
      clear c16
      obtain ⟨y7010,hy7010⟩:∃ y_:List (List Int),y_=(([]:List (List Int)) ++ [x4_1]):=⟨_,rfl⟩
      replace H:((spec_l13Letters.f k1 l0_0 l0_1).bind fun t14=>(spec_BuildMonoid.l1 k1 t14 0 y7010))=some (r1,r2,r3,r4):=by first|(rw [hy7010];with_reducible exact H)|(have H2_:=(Option.bind_some _ _).symm.trans H;rw [hy7010];with_reducible exact H2_)|(have H2_:=(Option.bind_some _ _).symm.trans H;with_reducible exact H2_)|with_reducible exact H|(rw [hy7010];exact H)|exact H
      have Ny10:=zk hy7010
      clear hy7010
      obtain ⟨t14,A17,H⟩:=zO H
      try dsimp only at H
      have H':=zk H
      clear H
      have hnb18:=NB1_2.out
      have hnc18:=NB2_1.out
      have hcz19_0:wr.cell? ⟨gb1,0,none⟩=some (.slice A0_0 l0_0.length c0_0):=(blk_cell BK1.out 0).trans rfl
      have hcz19_1:wr.cell? ⟨gb1,1,none⟩=some (.slice A0_1 l0_1.length c0_1):=(blk_cell BK1.out 1).trans rfl
      have hfz19_0:=blk_frozen BK1.out 0
      have hfz19_1:=blk_frozen BK1.out 1
      obtain ⟨Ao21,co21,eo21⟩:=Kd.R_slice HO_4.out
      subst eo21
      go_wp2_with (first|((with_reducible refine gate_dst (N:=32) rfl ?_);refine S_lita (Kd.slice 3 (Kd.int .i64)) (w0:=w) w.heap.size ?hg (N:=32) ?hd 29 x4_1 [.slice Ao21 x4_1.length co21] (fun _=>True) (fun k_=>some k_=(.slice Ao21 x4_1.length co21:Value).ownBlock) ?hr rfl ?aP (fun k_ hk_=>((Kd.R_mono (ok':=fun k_=>((fun _=>True)) k_∧some k_ ≠ (.slice none 0 0:Value).ownBlock) (HO_4.out) (fun k_ hk=>⟨trivial,za109⟩))).1 k_ hk_.symm) ?aF ?aB ?aS ?_;(case hd=>rfl);(case hg=>rfl);(case hr=>first|(go_simp;done)|(go_simp;rfl));(case aP=>exact Kd.M_row (Kd.R_mono (Kd.R_tight rfl (Kd.R_mono (ok':=fun k_=>((fun _=>True)) k_∧some k_ ≠ (.slice none 0 0:Value).ownBlock) (HO_4.out) (fun k_ hk=>⟨trivial,za109⟩))) (fun _ h_=>h_)));(case aB=>exact za24);(case aF=>exact (fun _ _=>trivial));(case aS=>exact (below_size za24));intro v7011 w20 ho hb hg hat;rw [← Ny10.out] at ho;replace BK1:=zk (blk_grown (g:=gb1) (o:=.cells #[.slice A0_0 l0_0.length c0_0,.slice A0_1 l0_1.length c0_1] 27 (0,0)) (za0 BK1.out) hg za109);replace BK2:=zk (blk_grown (g:=gb2) (o:=.cells #[.slice none 0 0,.slice none 0 0,.slice none 0 0] 31 (0,0)) (za0 BK2.out) hg za109);replace HB:=zk hb;have HO12:=zk ho;clear HO_4;clear ho hb hg hat;obtain ⟨Ao22,co22,eo22⟩:=Kd.S_slice HO12.out;subst eo22)|((with_reducible refine gate_dst (N:=6) rfl ?_);refine zE (cs:=#[.slice none 0 0,.slice none 0 0,.slice none 0 0]) (t:=31) ?_;intro gb13 hg w23 hbox hb;replace HO12:=zk (Kd.S_below (za2 HO12.out) hb);have BK13:=zk hbox;have GW13:=zk (zs (w:=w) hg za24);have GE13:=GW13;have NB1_13:=yn hg BK1;have NB13_1:=yp hg BK1;have NB2_13:=yn hg BK2;have NB13_2:=yp hg BK2;replace BK1:=yb BK1 hb;replace BK2:=yb BK2 hb;replace HB:=zk (below_step za24 hb);clear hb hbox hg;have hnb24:=NB13_1.out;have hnc24:=NB1_13.out;have hnb25:=NB13_2.out;have hnc25:=NB2_13.out;have hcz26_0:w23.cell? ⟨gb13,0,none⟩=some (.slice none 0 0):=(blk_cell BK13.out 0).trans rfl;have hcz26_1:w23.cell? ⟨gb13,1,none⟩=some (.slice none 0 0):=(blk_cell BK13.out 1).trans rfl;have hcz26_2:w23.cell? ⟨gb13,2,none⟩=some (.slice none 0 0):=(blk_cell BK13.out 2).trans rfl;have hfz26_0:=blk_frozen BK13.out 0;have hfz26_1:=blk_frozen BK13.out 1;have hfz26_2:=blk_frozen BK13.out 2;have hcz27_0:w23.cell? ⟨gb1,0,none⟩=some (.slice A0_0 l0_0.length c0_0):=(blk_cell BK1.out 0).trans rfl;have hcz27_1:w23.cell? ⟨gb1,1,none⟩=some (.slice A0_1 l0_1.length c0_1):=(blk_cell BK1.out 1).trans rfl;have hfz27_0:=blk_frozen BK1.out 0;have hfz27_1:=blk_frozen BK1.out 1)|((with_reducible refine gate_callee (f:=27) rfl ?_);refine zg (some 35) Try.func27 #[.agg #[.slice A0_0 l0_0.length c0_0,.slice A0_1 l0_1.length c0_1]] rfl za4 ?_;(with_reducible refine (spec_l13Letters.calls k1 _ _ l0_0 _ _ l0_1 t14 _ ?side1 ?side2 ?side3 ?side4 A17.out).mono ?_);(case side1=>exact Kd.C_below HR0_0.out za11);(case side2=>exact HC0_0.out);(case side3=>exact Kd.C_below HR0_1.out za11);(case side4=>exact HC0_1.out);rintro e w28 ⟨v15,rfl,ho0,hb⟩;refine ⟨_,rfl,?_⟩;have HO16:=zk (Kd.S_lower (Kd.S_new' ho0 (Kd.S_lt za95)) (below_size za11));replace BK1:=zk (blk_below (g:=gb1) (o:=.cells #[.slice A0_0 l0_0.length c0_0,.slice A0_1 l0_1.length c0_1] 27 (0,0)) (zpw BK1.out) hb);replace BK2:=zk (blk_below (g:=gb2) (o:=.cells #[.slice none 0 0,.slice none 0 0,.slice none 0 0] 31 (0,0)) (zpw BK2.out) hb);replace HO12:=zk (Kd.S_elder' za95 (Kd.S_base ho0) hb);replace HB:=zk (below_step za11 hb);replace BK13:=zk (blk_below (g:=gb13) (o:=.cells #[.slice Ao22 y7010.length co22,.slice none 0 0,.slice none 0 0] 31 (0,0)) (zpu BK13.out) hb);(try clear hb ho0)))
      try simp only [Act.put,zt,zv,zu]
      go_loopg [8] k1 (fun kq v8 w'=>∃ (x8_2:Int) (x7014000_2:List (List Int)) (u7014000:Value),v8 = .int .i64 x8_2∧Aside0 (spec_BuildMonoid.l1 kq t14 x8_2 x7014000_2=some (r1,r2,r3,r4))∧Aside0 (kq≤k1)∧Aside0 (Kd.S (Kd.slice 3 (Kd.int .i64)) 29 w' w.heap.size (fun k_=>some k_ ≠ (u7014000:Value).ownBlock) v15 t14)∧Aside0 (Kd.S (Kd.slice 3 (Kd.int .i64)) 29 w' w.heap.size (fun k_=>some k_ ≠ (v15:Value).ownBlock) u7014000 x7014000_2)∧Aside0 (w'.heap[gb1]? = some (.cells #[(.slice A0_0 l0_0.length c0_0),(.slice A0_1 l0_1.length c0_1)] 27 (0,0)))∧Aside0 (w'.heap[gb2]? = some (.cells #[(.slice none 0 0),(.slice none 0 0),(.slice none 0 0)] 31 (0,0)))∧Aside0 (w'.heap[gb13]? = some (.cells #[u7014000,(.slice none 0 0),(.slice none 0 0)] 31 (0,0)))∧Aside0 (Below w.heap.size w w'))
      case atStart=>exact ⟨(0),(y7010),(.slice Ao22 y7010.length co22),za13,H',⟨Nat.le_refl _⟩,⟨by (with_reducible repeat (first|apply Kd.S_alloc|apply Kd.S_drewN|apply Kd.S_drew));exact Kd.S_mono HO16.out (fun _ hk=>hk.2)⟩,⟨by (with_reducible repeat (first|apply Kd.S_alloc|apply Kd.S_drewN|apply Kd.S_drew));exact Kd.S_mono HO12.out (fun _ hk=>hk.2)⟩,⟨za0 BK1.out⟩,⟨za0 BK2.out⟩,⟨za0 BK13.out⟩,⟨za11⟩⟩
      case round =>
       clear H'
       try clear c1
       try clear c2
       try clear p2
       try clear c3
       try clear c6
       try clear p6
       try clear c7
       try clear c11
       try clear c11b0
       try clear c12
       try clear c13
       try clear c16
       try clear c18
       try clear c24
       try clear c25
       try clear c26
       try clear c27
       try clear hcz14_0
       try clear hcz14_1
       try clear hcz19_0
       try clear hcz19_1
       try clear hcz26_0
       try clear hcz26_1
       try clear hcz26_2
       try clear hcz27_0
       try clear hcz27_1
       try clear hcz7_0
       try clear hcz7_1
       try clear hfz14_0
       try clear hfz14_1
       try clear hfz19_0
       try clear hfz19_1
       try clear hfz26_0
       try clear hfz26_1
       try clear hfz26_2
       try clear hfz27_0
       try clear hfz27_1
       try clear hfz7_0
       try clear hfz7_1
       try clear p2
       obtain ⟨x8_2,x7014000_2,u7014000,rfl,HA,HK2,HO_7,HO_7014000,BK1,BK2,BK13,HB⟩:=hrel
       cases gk with
       | zero=>exact absurd HA.out (by simp [spec_BuildMonoid.l1])
       | succ k2 =>
        have H:=HA.out
        clear HA
        simp only [spec_BuildMonoid.l1] at H
        by_cases c29:x8_2 < (x7014000_2.length:Int)
        ·rw [if_pos c29] at H
         have c29b0:=zdl c29
         clear c29
         have H':=zk H
         clear H
         have hnb30:=NB13_1.out
         have hnc30:=NB1_13.out
         have hnb31:=NB13_2.out
         have hnc31:=NB2_13.out
         have hcz32_0:wr.cell? ⟨gb13,0,none⟩=some (u7014000):=(blk_cell BK13.out 0).trans rfl
         have hcz32_1:wr.cell? ⟨gb13,1,none⟩=some (.slice none 0 0):=(blk_cell BK13.out 1).trans rfl
         have hcz32_2:wr.cell? ⟨gb13,2,none⟩=some (.slice none 0 0):=(blk_cell BK13.out 2).trans rfl
         have hfz32_0:=blk_frozen BK13.out 0
         have hfz32_1:=blk_frozen BK13.out 1
         have hfz32_2:=blk_frozen BK13.out 2
         obtain ⟨Ao33,co33,eo33⟩:=Kd.S_slice HO_7014000.out
         subst eo33
         go_wp2
         try simp only [Act.put,zt,zv,zu]
         go_loopg [9] k2 (fun kq v9 w'=>∃ (x9_3:Int) (x7014000_3:List (List Int)) (u7014000:Value),v9 = .int .i64 x9_3∧Aside0 (spec_BuildMonoid.l2 kq t14 x8_2 x9_3 x7014000_3=some (r1,r2,r3,r4))∧Aside0 (kq≤k2)∧Aside0 (Kd.S (Kd.slice 3 (Kd.int .i64)) 29 w' w.heap.size (fun k_=>some k_ ≠ (u7014000:Value).ownBlock) v15 t14)∧Aside0 (Kd.S (Kd.slice 3 (Kd.int .i64)) 29 w' w.heap.size (fun k_=>some k_ ≠ (v15:Value).ownBlock) u7014000 x7014000_3)∧Aside0 (w'.heap[gb1]? = some (.cells #[(.slice A0_0 l0_0.length c0_0),(.slice A0_1 l0_1.length c0_1)] 27 (0,0)))∧Aside0 (w'.heap[gb2]? = some (.cells #[(.slice none 0 0),(.slice none 0 0),(.slice none 0 0)] 31 (0,0)))∧Aside0 (w'.heap[gb13]? = some (.cells #[u7014000,(.slice none 0 0),(.slice none 0 0)] 31 (0,0)))∧Aside0 (Below w.heap.size w w'))
         case atStart=>exact ⟨(0),(x7014000_2),(.slice Ao33 x7014000_2.length co33),za13,H',⟨Nat.le_refl _⟩,⟨za2 HO_7.out⟩,⟨za2 HO_7014000.out⟩,⟨za0 BK1.out⟩,⟨za0 BK2.out⟩,⟨za0 BK13.out⟩,⟨za11⟩⟩
         case round =>
          clear H'
          try clear c1
          try clear c2
          try clear p2
          try clear c3
          try clear c6
          try clear p6
          try clear c7
          try clear c11
          try clear c11b0
          try clear c12
          try clear c13
          try clear c16
          try clear c18
          try clear c24
          try clear c25
          try clear c26
          try clear c27
          try clear c29
          try clear c29b0
          try clear c30
          try clear c31
          try clear hcz14_0
          try clear hcz14_1
          try clear hcz19_0
          try clear hcz19_1
          try clear hcz26_0
          try clear hcz26_1
          try clear hcz26_2
          try clear hcz27_0
          try clear hcz27_1
          try clear hcz32_0
          try clear hcz32_1
          try clear hcz32_2
          try clear hcz7_0
          try clear hcz7_1
          try clear hfz14_0
          try clear hfz14_1
          try clear hfz19_0
          try clear hfz19_1
          try clear hfz26_0
          try clear hfz26_1
          try clear hfz26_2
          try clear hfz27_0
          try clear hfz27_1
          try clear hfz32_0
          try clear hfz32_1
          try clear hfz32_2
          try clear hfz7_0
          try clear hfz7_1
          try clear p2
          try clear p6
          obtain ⟨x9_3,x7014000_3,u7014000,rfl,HA,HK3,HO_7,HO_7014000,BK1,BK2,BK13,HB⟩:=hrel
          cases gk with
          | zero=>exact absurd HA.out (by simp [spec_BuildMonoid.l2])
          | succ k3 =>
           have H:=HA.out
           clear HA
           simp only [spec_BuildMonoid.l2] at H
           by_cases c34:x9_3 < (t14.length:Int)
           ·rw [if_pos c34] at H
            have c34b0:=zdl c34
            clear c34
            by_cases c35:0≤x8_2
            ·rw [if_pos c35] at H
             have c35b0:=zdle c35
             clear c35
             by_cases c36:x8_2 < (x7014000_3.length:Int)
             ·rw [if_pos c36] at H
              have c36b0:=zdl c36
              clear c36
              by_cases c37:0≤x9_3
              ·rw [if_pos c37] at H
               have c37b0:=zdle c37
               clear c37
               obtain ⟨t19,A38,H⟩:=zO H
               try dsimp only at H
               obtain ⟨t22,A39,H⟩:=zO H
               try dsimp only at H
               by_cases c40:t22 < 0
               ·rw [if_pos c40] at H
                have c40b0:=zdl c40
                clear c40
                by_cases c41:x7014000_3.length < 5864062014805
                ·rw [if_pos c41] at H
                 have LMc41:=zk c41
                 clear c41
                 obtain ⟨y7023,hy7023⟩:∃ y_:List (List Int),y_=(x7014000_3 ++ [t19]):=⟨_,rfl⟩
                 replace H:(spec_BuildMonoid.l2 k3 t14 x8_2 (wrap64 (x9_3+1)) y7023)=some (r1,r2,r3,r4):=by first|(rw [hy7023];with_reducible exact H)|(have H2_:=(Option.bind_some _ _).symm.trans H;rw [hy7023];with_reducible exact H2_)|(have H2_:=(Option.bind_some _ _).symm.trans H;with_reducible exact H2_)|with_reducible exact H|(rw [hy7023];exact H)|exact H
                 have Ny23:=zk hy7023
                 clear hy7023
                 have H':=zk H
                 clear H
                 obtain ⟨Ao42,co42,eo42⟩:=Kd.S_slice HO_7.out
                 subst eo42
                 try go_wp2
                 replace HO_7:=zk (Kd.S_drew HO_7.out)
                 replace HO_7014000:=zk (Kd.S_drew HO_7014000.out)
                 replace BK1:=zk (blk_drew BK1.out)
                 replace BK2:=zk (blk_drew BK2.out)
                 replace BK13:=zk (blk_drew BK13.out)
                 replace HB:=zk (below_drew1 HB.out)
                 obtain ⟨Ao44,co44,eo44⟩:=Kd.S_slice HO_7014000.out
                 (first|subst eo44|(injection eo44 with f1_ f2_ f3_;have f4_:=f1_.symm;have f5_:=f3_.symm;clear f1_ f2_ f3_;subst f4_;subst f5_))
                 have p7017:0≤(x8_2:Int):=of_decide_eq_true za7
                 have q7017:x8_2 < (x7014000_3.length:Int):=of_decide_eq_true za7
                 obtain ⟨ad7017,A7017_0,c7017_0,e7017,hx7017_0,hl7017_0,hi7017_0⟩:=at_L3 (Kd.S_reads' HO_7014000.out).2.2 x8_2 p7017 q7017
                 cases e7017
                 obtain ⟨ce7017,hce7017,hMe7017,hcc7017⟩:=Kd.S_get HO_7014000.out [] x8_2 p7017 (by first|exact q7017|exact of_decide_eq_true za7|(have e_:=(Kd.S_reads' HO_7014000.out).1;omega))
                 obtain ⟨ve7017_0,rfl,ge7017_0⟩:=hMe7017
                 have hv7017_0:=hcc7017 0 _ rfl
                 rw [Nat.add_zero,show ((Kd.slice 3 (Kd.int .i64))).sz=1 from rfl,Nat.mul_one] at hv7017_0
                 replace hv7017_0:=zi (hv7017_0.symm.trans hx7017_0)
                 rw [hv7017_0] at ge7017_0
                 have HL7017_0:=zk (show Kd.R (Kd.int .i64) 3 _ _ _ _ (rd_L3 x7014000_3 x8_2) from ge7017_0)
                 clear hv7017_0 ge7017_0
                 clear hcc7017 hce7017
                 have HR7017_0:=zk hi7017_0
                 have HC7017_0:=zk hl7017_0
                 clear hi7017_0 hl7017_0
                 replace p7017:=eq_true p7017
                 replace q7017:=eq_true q7017
                 have p7018:0≤(x9_3:Int):=of_decide_eq_true za7
                 have q7018:x9_3 < (t14.length:Int):=of_decide_eq_true za7
                 obtain ⟨ad7018,A7018_0,c7018_0,e7018,hx7018_0,hl7018_0,hi7018_0⟩:=at_L3 (Kd.S_reads' HO_7.out).2.2 x9_3 p7018 q7018
                 cases e7018
                 obtain ⟨ce7018,hce7018,hMe7018,hcc7018⟩:=Kd.S_get HO_7.out [] x9_3 p7018 (by first|exact q7018|exact of_decide_eq_true za7|(have e_:=(Kd.S_reads' HO_7.out).1;omega))
                 obtain ⟨ve7018_0,rfl,ge7018_0⟩:=hMe7018
                 have hv7018_0:=hcc7018 0 _ rfl
                 rw [Nat.add_zero,show ((Kd.slice 3 (Kd.int .i64))).sz=1 from rfl,Nat.mul_one] at hv7018_0
                 replace hv7018_0:=zi (hv7018_0.symm.trans hx7018_0)
                 rw [hv7018_0] at ge7018_0
                 have HL7018_0:=zk (show Kd.R (Kd.int .i64) 3 _ _ _ _ (rd_L3 t14 x9_3) from ge7018_0)
                 clear hv7018_0 ge7018_0
                 clear hcc7018 hce7018
                 have HR7018_0:=zk hi7018_0
                 have HC7018_0:=zk hl7018_0
                 clear hi7018_0 hl7018_0
                 replace p7018:=eq_true p7018
                 replace q7018:=eq_true q7018
                 refine start_ (n:=11) (S:=fun w'=>w'.cell? ⟨gb13,0,none⟩=some (.slice (some ad7017) x7014000_3.length co44)∧w'.cell? ⟨gb13,1,none⟩=some (.slice none 0 0)∧w'.cell? ⟨gb13,2,none⟩=some (.slice none 0 0)∧w'.cell? (ad7017.add (x8_2).toNat)=some (.slice A7017_0 (rd_L3 x7014000_3 x8_2).length c7017_0)∧w'.cell? (ad7018.add (x9_3).toNat)=some (.slice A7018_0 (rd_L3 t14 x9_3).length c7018_0)) (ds:=[]) #[false,false,false,false,false,false,false,false,false,false,false] (by kernel_rfl) rfl rfl ⟨(blk_cell BK13.out 0).trans rfl,(blk_cell BK13.out 1).trans rfl,(blk_cell BK13.out 2).trans rfl,hx7017_0,hx7018_0⟩ (fun hHeld=>?_);refine with_tabW spec_BuildMonoid.tab16 spec_BuildMonoid.bits16 (fun HT_ HW_=>?_)
                 generalize wr.drew=w43 at HO_7 HO_7014000 BK1 BK2 BK13 HB HL7017_0 HL7018_0 HR7017_0 HR7018_0 hx7017_0 hx7018_0 hHeld ⊢
                 refine zy 0 (some 49) HT_.out ?_
                 refine zy 2 (some 51) HT_.out ?_
                 refine zy 5 (some 54) HT_.out ?_
                 refine zy 6 (some 55) HT_.out ?_
                 refine zy 7 (some 56) HT_.out ?_
                 refine ztk 1 (some 50) HT_.out HW_.out hHeld ?_
                 refine zy 3 (some 52) HT_.out ?_
                 refine ztk 4 (some 53) HT_.out HW_.out hHeld ?_
                 refine ztk 8 (some 57) HT_.out HW_.out hHeld ?_
                 refine zon 9 (some 58) HT_.out (fun K hK=>?_)
                 refine goes_ Try.func28 (by kernel_rfl) rfl #[.slice A7017_0 (rd_L3 x7014000_3 x8_2).length c7017_0,.slice A7018_0 (rd_L3 t14 x9_3).length c7018_0] (by rfl) rfl rfl za4 ?_
                 with_reducible refine (spec_l13After.calls k3 _ _ (rd_L3 x7014000_3 x8_2) _ _ (rd_L3 t14 x9_3) t19 _ ?side1 ?side2 ?side3 ?side4 A38.out).mono ?_
                 (case side1=>repeat (first|exact za35|(with_reducible refine Kd.C_alloc ?_ _)|(with_reducible refine Kd.C_drewN ?_ _)|(with_reducible refine Kd.C_drew ?_)))
                 (case side2=>exact HC7017_0.out)
                 (case side3=>repeat (first|exact za34|(with_reducible refine Kd.C_alloc ?_ _)|(with_reducible refine Kd.C_drewN ?_ _)|(with_reducible refine Kd.C_drew ?_)))
                 (case side4=>exact HC7018_0.out)
                 rintro e w45 ⟨v20,rfl,ho0,hb⟩
                 have HS3_:=(hb.cell (World.block_lt_of_cell? _ _ (hHeld.2.2.2.1))).trans (hHeld.2.2.2.1)
                 have HS4_:=(hb.cell (World.block_lt_of_cell? _ _ (hHeld.2.2.2.2))).trans (hHeld.2.2.2.2)
                 refine ⟨_,rfl,?_⟩
                 replace HO_7:=zk (Kd.S_elder' (za2 HO_7.out) (Kd.R_base ho0) hb)
                 replace HO_7014000:=zk (Kd.S_elder' (za2 HO_7014000.out) (Kd.R_base ho0) hb)
                 have HO21:=zk (Kd.R_lower (Kd.R_new' (Kd.R_new' ho0 (Kd.R_lt (za1 HL7017_0.out))) (Kd.R_lt (za1 HL7018_0.out))) (below_size za11))
                 replace BK1:=yb BK1 hb
                 replace BK2:=yb BK2 hb
                 replace BK13:=yb BK13 hb
                 replace HR7017_0:=zk (Kd.C_below za35 hb)
                 replace HR7018_0:=zk (Kd.C_below za34 hb)
                 replace HL7017_0:=zk (Kd.R_elder' (za1 HL7017_0.out) (Kd.R_base ho0) hb)
                 replace HL7018_0:=zk (Kd.R_elder' (za1 HL7018_0.out) (Kd.R_base ho0) hb)
                 replace HB:=zk (below_step za11 hb)
                 (try clear hb)
                 (try clear hb2)
                 (try clear hk)
                 (try clear hi)
                 (try clear ho0)
                 refine hK.out _ _ ⟨(blk_cell BK13.out 0).trans rfl,(blk_cell BK13.out 1).trans rfl,(blk_cell BK13.out 2).trans rfl,HS3_,HS4_⟩ (fun hHeld=>?_)
                 clear hK K
                 refine zno (some 58) ?_
                 refine zy 10 (some 10) HT_.out ?_
                 refine done_ (done_of HT_.out (by kernel_rfl)) ?_
                 have hnb46:=NB13_1.out
                 have hnc46:=NB1_13.out
                 have hnb47:=NB13_2.out
                 have hnc47:=NB2_13.out
                 have hcz48_0:w45.cell? ⟨gb13,0,none⟩=some (.slice (some ad7017) x7014000_3.length co44):=(blk_cell BK13.out 0).trans rfl
                 have hcz48_1:w45.cell? ⟨gb13,1,none⟩=some (.slice none 0 0):=(blk_cell BK13.out 1).trans rfl
                 have hcz48_2:w45.cell? ⟨gb13,2,none⟩=some (.slice none 0 0):=(blk_cell BK13.out 2).trans rfl
                 have hfz48_0:=blk_frozen BK13.out 0
                 have hfz48_1:=blk_frozen BK13.out 1
                 have hfz48_2:=blk_frozen BK13.out 2
                 obtain ⟨Ao49,co49,eo49⟩:=Kd.R_slice HO21.out
                 subst eo49
                 try go_wp2_with (first|((with_reducible refine gate_callee (f:=29) rfl ?_);refine zg (some 62) Try.func29 #[.slice (some ad7017) x7014000_3.length co44,.slice Ao49 t19.length co49] rfl za4 ?_;(with_reducible refine (spec_l13Find.calls k3 _ _ x7014000_3 _ _ t19 t22 _ ?side1 ?side2 ?side3 ?side4 A39.out).mono ?_);(case side1=>repeat (first|exact (Kd.S_reads' HO_7014000.out).2.2|(with_reducible refine Kd.C_alloc ?_ _)|(with_reducible refine Kd.C_drewN ?_ _)|(with_reducible refine Kd.C_drew ?_)));(case side2=>exact (Kd.S_reads' HO_7014000.out).2.1);(case side3=>repeat (first|exact (Kd.R_reads' HO21.out).2.2|(with_reducible refine Kd.C_alloc ?_ _)|(with_reducible refine Kd.C_drewN ?_ _)|(with_reducible refine Kd.C_drew ?_)));(case side4=>exact (Kd.R_reads' HO21.out).2.1);rintro e w' ⟨rfl,⟨nd,rfl⟩⟩;refine ⟨_,rfl,?_⟩;(try (rw [drewN_self w45];generalize hq_:World.drewN w45 _=w45;have n0_:=zk (R_at_q HL7017_0.out hq_);have n1_:=zk (R_at_q HL7018_0.out hq_);have n2_:=zk (R_at_q HO21.out hq_);have n3_:=zk (S_at_q HO_7.out hq_);have n4_:=zk (S_at_q HO_7014000.out hq_);have n5_:Aside0 (w45.heap[gb1]? = some (.cells #[.slice A0_0 l0_0.length c0_0,.slice A0_1 l0_1.length c0_1] 27 (0,0))):=⟨by rw [← hq_];exact (za0 BK1.out)⟩;have n6_:Aside0 (w45.heap[gb2]? = some (.cells #[.slice none 0 0,.slice none 0 0,.slice none 0 0] 31 (0,0))):=⟨by rw [← hq_];exact (za0 BK2.out)⟩;have n7_:Aside0 (w45.heap[gb13]? = some (.cells #[.slice (some ad7017) x7014000_3.length co44,.slice none 0 0,.slice none 0 0] 31 (0,0))):=⟨by rw [← hq_];exact (za0 BK13.out)⟩;have n8_:Aside0 (Below w.heap.size w w45):=⟨by rw [← hq_];exact za11⟩;have n9_:Aside0 (Kd.C (Kd.int .i64) w45 A7017_0 (rd_L3 x7014000_3 x8_2).length (rd_L3 x7014000_3 x8_2)):=⟨by rw [← hq_];exact za35⟩;have n10_:Aside0 (Kd.C (Kd.int .i64) w45 A7018_0 (rd_L3 t14 x9_3).length (rd_L3 t14 x9_3)):=⟨by rw [← hq_];exact za34⟩;clear HL7017_0 HL7018_0 HO21 HO_7 HO_7014000 BK1 BK2 BK13 HB HR7017_0 HR7018_0 hq_;have HL7017_0:=n0_;have HL7018_0:=n1_;have HO21:=n2_;have HO_7:=n3_;have HO_7014000:=n4_;have BK1:=n5_;have BK2:=n6_;have BK13:=n7_;have HB:=n8_;have HR7017_0:=n9_;have HR7018_0:=n10_;clear n0_ n1_ n2_ n3_ n4_ n5_ n6_ n7_ n8_ n9_ n10_;have hcz48_0:w45.cell? ⟨gb13,0,none⟩=some (.slice (some ad7017) x7014000_3.length co44):=(blk_cell BK13.out 0).trans rfl;have hcz48_1:w45.cell? ⟨gb13,1,none⟩=some (.slice none 0 0):=(blk_cell BK13.out 1).trans rfl;have hcz48_2:w45.cell? ⟨gb13,2,none⟩=some (.slice none 0 0):=(blk_cell BK13.out 2).trans rfl)))|((with_reducible refine gate_builtin (b:=.append) (xs:=#[.tmp 65,.tmp 67]) rfl ?_);at_builtin;refine Kd.S_append (Kd.slice 3 (Kd.int .i64)) (w0:=w) w.heap.size rfl (.tmp 65) (.tmp 67) 25 29 (.slice none 0 0) 24 rfl Try.underlying25 info29 rfl (by decide) (by omega) (.slice (some ad7017) x7014000_3.length co44) x7014000_3 t19 [.slice Ao49 t19.length co49] (fun k_=>some k_ ≠ (.slice (some ad7018) t14.length co42:Value).ownBlock) (fun k_=>some k_=(.slice Ao49 t19.length co49:Value).ownBlock) rfl rfl ?aP (fun k_ hk_=>((Kd.R_mono (ok':=fun k_=>((fun k_=>some k_ ≠ (.slice (some ad7018) t14.length co42:Value).ownBlock)) k_∧some k_ ≠ (.slice (some ad7017) x7014000_3.length co44:Value).ownBlock) (Kd.R_apart' (Kd.R_apart' (HO21.out) (Kd.S_typed HO_7.out) (by decide)) (Kd.S_typed HO_7014000.out) (by decide)) (fun k_ hk=>⟨hk.1.2,hk.2⟩))).1 k_ hk_.symm) ?aF ?aO ?aB ?aS ?aL ?_;(case aP=>exact Kd.M_row (Kd.R_mono (Kd.R_tight rfl (Kd.R_mono (ok':=fun k_=>((fun k_=>some k_ ≠ (.slice (some ad7018) t14.length co42:Value).ownBlock)) k_∧some k_ ≠ (.slice (some ad7017) x7014000_3.length co44:Value).ownBlock) (Kd.R_apart' (Kd.R_apart' (HO21.out) (Kd.S_typed HO_7.out) (by decide)) (Kd.S_typed HO_7014000.out) (by decide)) (fun k_ hk=>⟨hk.1.2,hk.2⟩))) (fun _ h_=>h_)));(case aB=>exact za11);(case aF=>exact (fun k_ hk=>Kd.fresh' (Kd.S_lt (za2 HO_7.out)) k_ hk));(case aO=>exact (by (with_reducible repeat (first|apply Kd.S_alloc|apply Kd.S_drewN|apply Kd.S_drew));exact Kd.S_mono HO_7014000.out (fun k_ hk=>⟨hk.1,fun e_=>hk.2 e_⟩)));(case aS=>exact (below_size za11));(case aL=>have:=LMc41.out;omega);intro v24 w50 ho hb hg hat;rw [← Ny23.out] at ho;replace HO_7:=zk (Kd.S_after (ok:=(fun k_=>some k_ ≠ (.slice Ao49 t19.length co49:Value).ownBlock)) (by (with_reducible repeat (first|apply Kd.S_alloc|apply Kd.S_drewN|apply Kd.S_drew));exact Kd.S_mono HO_7.out (fun _ hk=>⟨hk.2,hk.1⟩)) hg hat);replace BK1:=zk (blk_grown (g:=gb1) (o:=.cells #[.slice A0_0 l0_0.length c0_0,.slice A0_1 l0_1.length c0_1] 27 (0,0)) (za0 BK1.out) hg (Kd.S_ne HO_7014000.out BK1.out (by decide)));replace BK2:=zk (blk_grown (g:=gb2) (o:=.cells #[.slice none 0 0,.slice none 0 0,.slice none 0 0] 31 (0,0)) (za0 BK2.out) hg (Kd.S_ne HO_7014000.out BK2.out (by decide)));replace BK13:=zk (blk_grown (g:=gb13) (o:=.cells #[.slice (some ad7017) x7014000_3.length co44,.slice none 0 0,.slice none 0 0] 31 (0,0)) (za0 BK13.out) hg (Kd.S_ne HO_7014000.out BK13.out (by decide)));replace HL7017_0:=zk (Kd.R_after (ok:=(fun k_=>some k_ ≠ (.slice (some ad7018) t14.length co42:Value).ownBlock∧some k_ ≠ (.slice Ao49 t19.length co49:Value).ownBlock)) (by (with_reducible repeat (first|apply Kd.R_alloc|apply Kd.R_drewN|apply Kd.R_drew));exact Kd.R_mono HL7017_0.out (fun _ hk=>⟨⟨hk.1.1,hk.2⟩,hk.1.2⟩)) hg hat);replace HL7018_0:=zk (Kd.R_after (ok:=(fun k_=>some k_ ≠ (.slice (some ad7018) t14.length co42:Value).ownBlock∧some k_ ≠ (.slice Ao49 t19.length co49:Value).ownBlock)) (by (with_reducible repeat (first|apply Kd.R_alloc|apply Kd.R_drewN|apply Kd.R_drew));exact Kd.R_mono HL7018_0.out (fun _ hk=>⟨⟨hk.1.2,hk.2⟩,hk.1.1⟩)) hg hat);replace HB:=zk hb;have HO25:=zk ho;clear HO_7014000;clear HO21;clear ho hb hg hat;obtain ⟨Ao51,co51,eo51⟩:=Kd.S_slice HO25.out;subst eo51;have hcz52_0:w50.cell? ⟨gb13,0,none⟩=some (.slice (some ad7017) x7014000_3.length co44):=(blk_cell BK13.out 0).trans rfl;have hcz52_1:w50.cell? ⟨gb13,1,none⟩=some (.slice none 0 0):=(blk_cell BK13.out 1).trans rfl;have hcz52_2:w50.cell? ⟨gb13,2,none⟩=some (.slice none 0 0):=(blk_cell BK13.out 2).trans rfl;have hfz52_0:=blk_frozen BK13.out 0;have hfz52_1:=blk_frozen BK13.out 1;have hfz52_2:=blk_frozen BK13.out 2))
                 go_roundg k3
                 case measure=>have:=HK1.out;have:=HK2.out;have:=HK3.out;omega
                 case rel=>exact ⟨(wrap64 (x9_3+1)),(y7023),(.slice Ao51 y7023.length co51),za13,H',⟨za60⟩,⟨by (with_reducible repeat (first|apply Kd.S_alloc|apply Kd.S_drewN|apply Kd.S_drew));exact Kd.S_mono (zfS (Kd.S_types HO_7.out BK13.out (by decide))) (fun _ hk=>hk.1.2)⟩,⟨by (with_reducible repeat (first|apply Kd.S_alloc|apply Kd.S_drewN|apply Kd.S_drew));exact Kd.S_mono (zfS (Kd.S_types HO25.out BK13.out (by decide))) (fun _ hk=>hk.1)⟩,⟨zpw BK1.out⟩,⟨zpw BK2.out⟩,⟨zpu BK13.out⟩,⟨za11⟩⟩
                ·rw [if_neg c41] at H
                 exact absurd H (by simp)
               ·rw [if_neg c40] at H
                have c40b0:=zdnl c40
                clear c40
                have H':=zk H
                clear H
                obtain ⟨Ao53,co53,eo53⟩:=Kd.S_slice HO_7.out
                subst eo53
                try go_wp2
                replace HO_7:=zk (Kd.S_drew HO_7.out)
                replace HO_7014000:=zk (Kd.S_drew HO_7014000.out)
                replace BK1:=zk (blk_drew BK1.out)
                replace BK2:=zk (blk_drew BK2.out)
                replace BK13:=zk (blk_drew BK13.out)
                replace HB:=zk (below_drew1 HB.out)
                obtain ⟨Ao55,co55,eo55⟩:=Kd.S_slice HO_7014000.out
                (first|subst eo55|(injection eo55 with f1_ f2_ f3_;have f4_:=f1_.symm;have f5_:=f3_.symm;clear f1_ f2_ f3_;subst f4_;subst f5_))
                have p7017:0≤(x8_2:Int):=of_decide_eq_true za7
                have q7017:x8_2 < (x7014000_3.length:Int):=of_decide_eq_true za7
                obtain ⟨ad7017,A7017_0,c7017_0,e7017,hx7017_0,hl7017_0,hi7017_0⟩:=at_L3 (Kd.S_reads' HO_7014000.out).2.2 x8_2 p7017 q7017
                cases e7017
                obtain ⟨ce7017,hce7017,hMe7017,hcc7017⟩:=Kd.S_get HO_7014000.out [] x8_2 p7017 (by first|exact q7017|exact of_decide_eq_true za7|(have e_:=(Kd.S_reads' HO_7014000.out).1;omega))
                obtain ⟨ve7017_0,rfl,ge7017_0⟩:=hMe7017
                have hv7017_0:=hcc7017 0 _ rfl
                rw [Nat.add_zero,show ((Kd.slice 3 (Kd.int .i64))).sz=1 from rfl,Nat.mul_one] at hv7017_0
                replace hv7017_0:=zi (hv7017_0.symm.trans hx7017_0)
                rw [hv7017_0] at ge7017_0
                have HL7017_0:=zk (show Kd.R (Kd.int .i64) 3 _ _ _ _ (rd_L3 x7014000_3 x8_2) from ge7017_0)
                clear hv7017_0 ge7017_0
                clear hcc7017 hce7017
                have HR7017_0:=zk hi7017_0
                have HC7017_0:=zk hl7017_0
                clear hi7017_0 hl7017_0
                replace p7017:=eq_true p7017
                replace q7017:=eq_true q7017
                have p7018:0≤(x9_3:Int):=of_decide_eq_true za7
                have q7018:x9_3 < (t14.length:Int):=of_decide_eq_true za7
                obtain ⟨ad7018,A7018_0,c7018_0,e7018,hx7018_0,hl7018_0,hi7018_0⟩:=at_L3 (Kd.S_reads' HO_7.out).2.2 x9_3 p7018 q7018
                cases e7018
                obtain ⟨ce7018,hce7018,hMe7018,hcc7018⟩:=Kd.S_get HO_7.out [] x9_3 p7018 (by first|exact q7018|exact of_decide_eq_true za7|(have e_:=(Kd.S_reads' HO_7.out).1;omega))
                obtain ⟨ve7018_0,rfl,ge7018_0⟩:=hMe7018
                have hv7018_0:=hcc7018 0 _ rfl
                rw [Nat.add_zero,show ((Kd.slice 3 (Kd.int .i64))).sz=1 from rfl,Nat.mul_one] at hv7018_0
                replace hv7018_0:=zi (hv7018_0.symm.trans hx7018_0)
                rw [hv7018_0] at ge7018_0
                have HL7018_0:=zk (show Kd.R (Kd.int .i64) 3 _ _ _ _ (rd_L3 t14 x9_3) from ge7018_0)
                clear hv7018_0 ge7018_0
                clear hcc7018 hce7018
                have HR7018_0:=zk hi7018_0
                have HC7018_0:=zk hl7018_0
                clear hi7018_0 hl7018_0
                replace p7018:=eq_true p7018
                replace q7018:=eq_true q7018
                refine start_ (n:=11) (S:=fun w'=>w'.cell? ⟨gb13,0,none⟩=some (.slice (some ad7017) x7014000_3.length co55)∧w'.cell? ⟨gb13,1,none⟩=some (.slice none 0 0)∧w'.cell? ⟨gb13,2,none⟩=some (.slice none 0 0)∧w'.cell? (ad7017.add (x8_2).toNat)=some (.slice A7017_0 (rd_L3 x7014000_3 x8_2).length c7017_0)∧w'.cell? (ad7018.add (x9_3).toNat)=some (.slice A7018_0 (rd_L3 t14 x9_3).length c7018_0)) (ds:=[]) #[false,false,false,false,false,false,false,false,false,false,false] (by kernel_rfl) rfl rfl ⟨(blk_cell BK13.out 0).trans rfl,(blk_cell BK13.out 1).trans rfl,(blk_cell BK13.out 2).trans rfl,hx7017_0,hx7018_0⟩ (fun hHeld=>?_);refine with_tabW spec_BuildMonoid.tab16 spec_BuildMonoid.bits16 (fun HT_ HW_=>?_)
                generalize wr.drew=w54 at HO_7 HO_7014000 BK1 BK2 BK13 HB HL7017_0 HL7018_0 HR7017_0 HR7018_0 hx7017_0 hx7018_0 hHeld ⊢
                refine zy 0 (some 49) HT_.out ?_
                refine zy 2 (some 51) HT_.out ?_
                refine zy 5 (some 54) HT_.out ?_
                refine zy 6 (some 55) HT_.out ?_
                refine zy 7 (some 56) HT_.out ?_
                refine ztk 1 (some 50) HT_.out HW_.out hHeld ?_
                refine zy 3 (some 52) HT_.out ?_
                refine ztk 4 (some 53) HT_.out HW_.out hHeld ?_
                refine ztk 8 (some 57) HT_.out HW_.out hHeld ?_
                refine zon 9 (some 58) HT_.out (fun K hK=>?_)
                refine goes_ Try.func28 (by kernel_rfl) rfl #[.slice A7017_0 (rd_L3 x7014000_3 x8_2).length c7017_0,.slice A7018_0 (rd_L3 t14 x9_3).length c7018_0] (by rfl) rfl rfl za4 ?_
                with_reducible refine (spec_l13After.calls k3 _ _ (rd_L3 x7014000_3 x8_2) _ _ (rd_L3 t14 x9_3) t19 _ ?side1 ?side2 ?side3 ?side4 A38.out).mono ?_
                (case side1=>repeat (first|exact za35|(with_reducible refine Kd.C_alloc ?_ _)|(with_reducible refine Kd.C_drewN ?_ _)|(with_reducible refine Kd.C_drew ?_)))
                (case side2=>exact HC7017_0.out)
                (case side3=>repeat (first|exact za34|(with_reducible refine Kd.C_alloc ?_ _)|(with_reducible refine Kd.C_drewN ?_ _)|(with_reducible refine Kd.C_drew ?_)))
                (case side4=>exact HC7018_0.out)
                rintro e w56 ⟨v20,rfl,ho0,hb⟩
                have HS3_:=(hb.cell (World.block_lt_of_cell? _ _ (hHeld.2.2.2.1))).trans (hHeld.2.2.2.1)
                have HS4_:=(hb.cell (World.block_lt_of_cell? _ _ (hHeld.2.2.2.2))).trans (hHeld.2.2.2.2)
                refine ⟨_,rfl,?_⟩
                replace HO_7:=zk (Kd.S_elder' (za2 HO_7.out) (Kd.R_base ho0) hb)
                replace HO_7014000:=zk (Kd.S_elder' (za2 HO_7014000.out) (Kd.R_base ho0) hb)
                have HO21:=zk (Kd.R_lower (Kd.R_new' (Kd.R_new' ho0 (Kd.R_lt (za1 HL7017_0.out))) (Kd.R_lt (za1 HL7018_0.out))) (below_size za11))
                replace BK1:=yb BK1 hb
                replace BK2:=yb BK2 hb
                replace BK13:=yb BK13 hb
                replace HR7017_0:=zk (Kd.C_below za35 hb)
                replace HR7018_0:=zk (Kd.C_below za34 hb)
                replace HL7017_0:=zk (Kd.R_elder' (za1 HL7017_0.out) (Kd.R_base ho0) hb)
                replace HL7018_0:=zk (Kd.R_elder' (za1 HL7018_0.out) (Kd.R_base ho0) hb)
                replace HB:=zk (below_step za11 hb)
                (try clear hb)
                (try clear hb2)
                (try clear hk)
                (try clear hi)
                (try clear ho0)
                refine hK.out _ _ ⟨(blk_cell BK13.out 0).trans rfl,(blk_cell BK13.out 1).trans rfl,(blk_cell BK13.out 2).trans rfl,HS3_,HS4_⟩ (fun hHeld=>?_)
                clear hK K
                refine zno (some 58) ?_
                refine zy 10 (some 10) HT_.out ?_
                refine done_ (done_of HT_.out (by kernel_rfl)) ?_
                have hnb57:=NB13_1.out
                have hnc57:=NB1_13.out
                have hnb58:=NB13_2.out
                have hnc58:=NB2_13.out
                have hcz59_0:w56.cell? ⟨gb13,0,none⟩=some (.slice (some ad7017) x7014000_3.length co55):=(blk_cell BK13.out 0).trans rfl
                have hcz59_1:w56.cell? ⟨gb13,1,none⟩=some (.slice none 0 0):=(blk_cell BK13.out 1).trans rfl
                have hcz59_2:w56.cell? ⟨gb13,2,none⟩=some (.slice none 0 0):=(blk_cell BK13.out 2).trans rfl
                have hfz59_0:=blk_frozen BK13.out 0
                have hfz59_1:=blk_frozen BK13.out 1
                have hfz59_2:=blk_frozen BK13.out 2
                obtain ⟨Ao60,co60,eo60⟩:=Kd.R_slice HO21.out
                subst eo60
                try go_wp2_with (first|((with_reducible refine gate_callee (f:=29) rfl ?_);refine zg (some 62) Try.func29 #[.slice (some ad7017) x7014000_3.length co55,.slice Ao60 t19.length co60] rfl za4 ?_;(with_reducible refine (spec_l13Find.calls k3 _ _ x7014000_3 _ _ t19 t22 _ ?side1 ?side2 ?side3 ?side4 A39.out).mono ?_);(case side1=>repeat (first|exact (Kd.S_reads' HO_7014000.out).2.2|(with_reducible refine Kd.C_alloc ?_ _)|(with_reducible refine Kd.C_drewN ?_ _)|(with_reducible refine Kd.C_drew ?_)));(case side2=>exact (Kd.S_reads' HO_7014000.out).2.1);(case side3=>repeat (first|exact (Kd.R_reads' HO21.out).2.2|(with_reducible refine Kd.C_alloc ?_ _)|(with_reducible refine Kd.C_drewN ?_ _)|(with_reducible refine Kd.C_drew ?_)));(case side4=>exact (Kd.R_reads' HO21.out).2.1);rintro e w' ⟨rfl,⟨nd,rfl⟩⟩;refine ⟨_,rfl,?_⟩))
                go_roundg k3
                case measure=>have:=HK1.out;have:=HK2.out;have:=HK3.out;omega
                case rel=>exact ⟨(wrap64 (x9_3+1)),(x7014000_3),(.slice (some ad7017) x7014000_3.length co55),za13,H',⟨za60⟩,⟨by (with_reducible repeat (first|apply Kd.S_alloc|apply Kd.S_drewN|apply Kd.S_drew));exact Kd.S_mono HO_7.out (fun _ hk=>hk.1)⟩,⟨by (with_reducible repeat (first|apply Kd.S_alloc|apply Kd.S_drewN|apply Kd.S_drew));exact Kd.S_mono HO_7014000.out (fun _ hk=>hk.1)⟩,⟨za0 BK1.out⟩,⟨za0 BK2.out⟩,⟨za0 BK13.out⟩,⟨za11⟩⟩
              ·rw [if_neg c37] at H
               exact absurd H (by simp)
             ·rw [if_neg c36] at H
              exact absurd H (by simp)
            ·rw [if_neg c35] at H
             exact absurd H (by simp)
           ·rw [if_neg c34] at H
            have c34b0:=zdnl c34
            clear c34
            by_cases c61:(x7014000_3.length:Int) > 30
            ·rw [if_pos c61] at H
             have c61b0:=zdl c61
             have c61b1:decide (30 < x7014000_3.length)=true:=decide_eq_true (by omega)
             clear c61
             simp only [Option.some.injEq,Prod.mk.injEq] at H
             obtain ⟨rfl,rfl,rfl,rfl⟩:=H
             obtain ⟨Ao62,co62,eo62⟩:=Kd.S_slice HO_7.out
             subst eo62
             have hnb63:=NB13_1.out
             have hnc63:=NB1_13.out
             have hnb64:=NB13_2.out
             have hnc64:=NB2_13.out
             have hcz65_0:wr.cell? ⟨gb13,0,none⟩=some (u7014000):=(blk_cell BK13.out 0).trans rfl
             have hcz65_1:wr.cell? ⟨gb13,1,none⟩=some (.slice none 0 0):=(blk_cell BK13.out 1).trans rfl
             have hcz65_2:wr.cell? ⟨gb13,2,none⟩=some (.slice none 0 0):=(blk_cell BK13.out 2).trans rfl
             have hfz65_0:=blk_frozen BK13.out 0
             have hfz65_1:=blk_frozen BK13.out 1
             have hfz65_2:=blk_frozen BK13.out 2
             obtain ⟨Ao66,co66,eo66⟩:=Kd.S_slice HO_7014000.out
             subst eo66
             have hnb67:=NB2_1.out
             have hnc67:=NB1_2.out
             have hcz68_0:wr.cell? ⟨gb2,0,none⟩=some (.slice none 0 0):=(blk_cell BK2.out 0).trans rfl
             have hcz68_1:wr.cell? ⟨gb2,1,none⟩=some (.slice none 0 0):=(blk_cell BK2.out 1).trans rfl
             have hcz68_2:wr.cell? ⟨gb2,2,none⟩=some (.slice none 0 0):=(blk_cell BK2.out 2).trans rfl
             have hfz68_0:=blk_frozen BK2.out 0
             have hfz68_1:=blk_frozen BK2.out 1
             have hfz68_2:=blk_frozen BK2.out 2
             go_wp2
             refine bodyPost_ret (results_ct rfl _ _ gb2 31 #[.slice none 0 0,.slice none 0 0,.slice none 0 0] (0,0) _ rfl (zpu BK2.out) Try.underlying31 rfl (by kernel_rfl)) rfl ?_
             exact ⟨w.heap.size,_,_,_,za15,za37,za53,za37,Nat.le_refl _,za11⟩
            ·rw [if_neg c61] at H
             have c61b0:=zdnl c61
             have c61b1:decide (30 < x7014000_3.length)=false:=decide_eq_false (by omega)
             clear c61
             have H':=zk H
             clear H
             obtain ⟨Ao69,co69,eo69⟩:=Kd.S_slice HO_7.out
             subst eo69
             have hnb70:=NB13_1.out
             have hnc70:=NB1_13.out
             have hnb71:=NB13_2.out
             have hnc71:=NB2_13.out
             have hcz72_0:wr.cell? ⟨gb13,0,none⟩=some (u7014000):=(blk_cell BK13.out 0).trans rfl
             have hcz72_1:wr.cell? ⟨gb13,1,none⟩=some (.slice none 0 0):=(blk_cell BK13.out 1).trans rfl
             have hcz72_2:wr.cell? ⟨gb13,2,none⟩=some (.slice none 0 0):=(blk_cell BK13.out 2).trans rfl
             have hfz72_0:=blk_frozen BK13.out 0
             have hfz72_1:=blk_frozen BK13.out 1
             have hfz72_2:=blk_frozen BK13.out 2
             obtain ⟨Ao73,co73,eo73⟩:=Kd.S_slice HO_7014000.out
             subst eo73
             go_wp2
             go_roundg k3
             case measure=>have:=HK1.out;have:=HK2.out;have:=HK3.out;omega
             case rel=>exact ⟨(wrap64 (x8_2+1)),(x7014000_3),(.slice Ao73 x7014000_3.length co73),za13,H',⟨za60⟩,⟨za2 HO_7.out⟩,⟨za2 HO_7014000.out⟩,⟨za0 BK1.out⟩,⟨za0 BK2.out⟩,⟨za0 BK13.out⟩,⟨za11⟩⟩
        ·rw [if_neg c29] at H
         have c29b0:=zdnl c29
         clear c29
         have H':=zk H
         clear H
         have hnb74:=NB13_1.out
         have hnc74:=NB1_13.out
         have hnb75:=NB13_2.out
         have hnc75:=NB2_13.out
         have hcz76_0:wr.cell? ⟨gb13,0,none⟩=some (u7014000):=(blk_cell BK13.out 0).trans rfl
         have hcz76_1:wr.cell? ⟨gb13,1,none⟩=some (.slice none 0 0):=(blk_cell BK13.out 1).trans rfl
         have hcz76_2:wr.cell? ⟨gb13,2,none⟩=some (.slice none 0 0):=(blk_cell BK13.out 2).trans rfl
         have hfz76_0:=blk_frozen BK13.out 0
         have hfz76_1:=blk_frozen BK13.out 1
         have hfz76_2:=blk_frozen BK13.out 2
         obtain ⟨Ao77,co77,eo77⟩:=Kd.S_slice HO_7014000.out
         subst eo77
         go_wp2
         try simp only [Act.put,zt,zv,zu]
         go_loopg [11] k2 (fun kq v11 w'=>∃ (x11_3:Int) (x7014001_3:List Int) (u7014001:Value),v11 = .int .i64 x11_3∧Aside0 (spec_BuildMonoid.l3 kq t14 x11_3 x7014000_2 x7014001_3=some (r1,r2,r3,r4))∧Aside0 (kq≤k2)∧Aside0 (Kd.S (Kd.slice 3 (Kd.int .i64)) 29 w' w.heap.size (fun k_=>some k_ ≠ ((.slice Ao77 x7014000_2.length co77):Value).ownBlock∧some k_ ≠ (u7014001:Value).ownBlock) v15 t14)∧Aside0 (Kd.S (Kd.slice 3 (Kd.int .i64)) 29 w' w.heap.size (fun k_=>some k_ ≠ (v15:Value).ownBlock∧some k_ ≠ (u7014001:Value).ownBlock) (.slice Ao77 x7014000_2.length co77) x7014000_2)∧Aside0 (Kd.R (Kd.int .i64) 3 w' w.heap.size (fun _=>True) u7014001 x7014001_3)∧Aside0 (w'.heap[gb1]? = some (.cells #[(.slice A0_0 l0_0.length c0_0),(.slice A0_1 l0_1.length c0_1)] 27 (0,0)))∧Aside0 (w'.heap[gb2]? = some (.cells #[(.slice none 0 0),(.slice none 0 0),(.slice none 0 0)] 31 (0,0)))∧Aside0 (w'.heap[gb13]? = some (.cells #[(.slice Ao77 x7014000_2.length co77),u7014001,(.slice none 0 0)] 31 (0,0)))∧Aside0 (Below w.heap.size w w'))
         case atStart=>exact ⟨(0),(([]:List Int)),(.slice none 0 0),za13,H',⟨Nat.le_refl _⟩,⟨by (with_reducible repeat (first|apply Kd.S_alloc|apply Kd.S_drewN|apply Kd.S_drew));exact Kd.S_mono HO_7.out (fun _ hk=>⟨hk,za109⟩)⟩,⟨by (with_reducible repeat (first|apply Kd.S_alloc|apply Kd.S_drewN|apply Kd.S_drew));exact Kd.S_mono HO_7014000.out (fun _ hk=>⟨hk,za109⟩)⟩,⟨za53⟩,⟨za0 BK1.out⟩,⟨za0 BK2.out⟩,⟨za0 BK13.out⟩,⟨za11⟩⟩
         case round =>
          clear H'
          try clear c2
          try clear p2
          try clear c3
          try clear c4
          try clear c5
          try clear c6
          try clear p6
          try clear c7
          try clear p7
          try clear q7
          try clear hx7
          try clear c28
          try clear c29
          try clear c29b0
          try clear c34
          try clear c34b0
          try clear c35
          try clear c35b0
          try clear c36
          try clear c36b0
          try clear c37
          try clear c37b0
          try clear c40
          try clear c40b0
          try clear c41
          try clear c46
          try clear c47
          try clear c57
          try clear c58
          try clear c61
          try clear c61b0
          try clear c61b1
          try clear c63
          try clear c64
          try clear p64
          try clear c67
          try clear c70
          try clear p70
          try clear q70
          try clear hx70
          try clear c71
          try clear c74
          try clear c75
          try clear hcz14_1
          try clear hcz19_0
          try clear hcz19_1
          try clear hcz26_0
          try clear hcz26_1
          try clear hcz26_2
          try clear hcz27_0
          try clear hcz27_1
          try clear hcz32_0
          try clear hcz32_1
          try clear hcz32_2
          try clear hcz48_0
          try clear hcz48_1
          try clear hcz48_2
          try clear hcz52_0
          try clear hcz52_1
          try clear hcz52_2
          try clear hcz59_0
          try clear hcz59_1
          try clear hcz59_2
          try clear hcz65_0
          try clear hcz65_1
          try clear hcz65_2
          try clear hcz68_0
          try clear hcz68_1
          try clear hcz68_2
          try clear hcz72_0
          try clear hcz72_1
          try clear hcz72_2
          try clear hcz76_0
          try clear hcz76_1
          try clear hcz76_2
          try clear hcz7_0
          try clear hcz7_1
          try clear hfz14_0
          try clear hfz14_1
          try clear hfz19_0
          try clear hfz19_1
          try clear hfz26_0
          try clear hfz26_1
          try clear hfz26_2
          try clear hfz27_0
          try clear hfz27_1
          try clear hfz32_0
          try clear hfz32_1
          try clear hfz32_2
          try clear hfz48_0
          try clear hfz48_1
          try clear hfz48_2
          try clear hfz52_0
          try clear hfz52_1
          try clear hfz52_2
          try clear hfz59_0
          try clear hfz59_1
          try clear hfz59_2
          try clear hfz65_0
          try clear hfz65_1
          try clear hfz65_2
          try clear hfz68_0
          try clear hfz68_1
          try clear hfz68_2
          try clear hfz72_0
          try clear hfz72_1
          try clear hfz72_2
          try clear hfz76_0
          try clear hfz76_1
          try clear hfz76_2
          try clear hfz7_0
          try clear hfz7_1
          try clear hx7017_0
          try clear hx7018_0
          try clear p2
          try clear p6
          try clear p7017
          try clear p7018
          try clear q7017
          try clear q7018
          obtain ⟨x11_3,x7014001_3,u7014001,rfl,HA,HK3,HO_7,HO_7014000,HO_7014001,BK1,BK2,BK13,HB⟩:=hrel
          cases gk with
          | zero=>exact absurd HA.out (by simp [spec_BuildMonoid.l3])
          | succ k3 =>
           have H:=HA.out
           clear HA
           simp only [spec_BuildMonoid.l3] at H
           by_cases c78:x11_3 < (t14.length:Int)
           ·rw [if_pos c78] at H
            have c78b0:=zdl c78
            clear c78
            by_cases c79:0≤x11_3
            ·rw [if_pos c79] at H
             have c79b0:=zdle c79
             clear c79
             obtain ⟨t27,A80,H⟩:=zO H
             try dsimp only at H
             by_cases c81:x7014001_3.length < 17592186044416
             ·rw [if_pos c81] at H
              have LMc81:=zk c81
              clear c81
              obtain ⟨y7028,hy7028⟩:∃ y_:List Int,y_=(x7014001_3 ++ [t27]):=⟨_,rfl⟩
              replace H:(spec_BuildMonoid.l3 k3 t14 (wrap64 (x11_3+1)) x7014000_2 y7028)=some (r1,r2,r3,r4):=by first|(rw [hy7028];with_reducible exact H)|(have H2_:=(Option.bind_some _ _).symm.trans H;rw [hy7028];with_reducible exact H2_)|(have H2_:=(Option.bind_some _ _).symm.trans H;with_reducible exact H2_)|with_reducible exact H|(rw [hy7028];exact H)|exact H
              have Ny28:=zk hy7028
              clear hy7028
              have H':=zk H
              clear H
              obtain ⟨Ao82,co82,eo82⟩:=Kd.S_slice HO_7.out
              subst eo82
              try go_wp2
              replace HO_7:=zk (Kd.S_drew HO_7.out)
              replace HO_7014000:=zk (Kd.S_drew HO_7014000.out)
              replace HO_7014001:=zk (Kd.R_drew HO_7014001.out)
              replace BK1:=zk (blk_drew BK1.out)
              replace BK2:=zk (blk_drew BK2.out)
              replace BK13:=zk (blk_drew BK13.out)
              replace HB:=zk (below_drew1 HB.out)
              have p7026:0≤(x11_3:Int):=of_decide_eq_true za7
              have q7026:x11_3 < (t14.length:Int):=of_decide_eq_true za7
              obtain ⟨ad7026,A7026_0,c7026_0,e7026,hx7026_0,hl7026_0,hi7026_0⟩:=at_L3 (Kd.S_reads' HO_7.out).2.2 x11_3 p7026 q7026
              cases e7026
              obtain ⟨ce7026,hce7026,hMe7026,hcc7026⟩:=Kd.S_get HO_7.out [] x11_3 p7026 (by first|exact q7026|exact of_decide_eq_true za7|(have e_:=(Kd.S_reads' HO_7.out).1;omega))
              obtain ⟨ve7026_0,rfl,ge7026_0⟩:=hMe7026
              have hv7026_0:=hcc7026 0 _ rfl
              rw [Nat.add_zero,show ((Kd.slice 3 (Kd.int .i64))).sz=1 from rfl,Nat.mul_one] at hv7026_0
              replace hv7026_0:=zi (hv7026_0.symm.trans hx7026_0)
              rw [hv7026_0] at ge7026_0
              have HL7026_0:=zk (show Kd.R (Kd.int .i64) 3 _ _ _ _ (rd_L3 t14 x11_3) from ge7026_0)
              clear hv7026_0 ge7026_0
              clear hcc7026 hce7026
              have HR7026_0:=zk hi7026_0
              have HC7026_0:=zk hl7026_0
              clear hi7026_0 hl7026_0
              replace p7026:=eq_true p7026
              replace q7026:=eq_true q7026
              refine start_ (n:=13) (S:=fun w'=>w'.cell? ⟨gb13,0,none⟩=some (.slice Ao77 x7014000_2.length co77)∧w'.cell? ⟨gb13,1,none⟩=some (u7014001)∧w'.cell? ⟨gb13,2,none⟩=some (.slice none 0 0)∧w'.cell? (ad7026.add (x11_3).toNat)=some (.slice A7026_0 (rd_L3 t14 x11_3).length c7026_0)) (ds:=[10,12]) #[false,false,false,false,false,false,false,false,false,false,false,false,false] (by kernel_rfl) rfl rfl ⟨(blk_cell BK13.out 0).trans rfl,(blk_cell BK13.out 1).trans rfl,(blk_cell BK13.out 2).trans rfl,hx7026_0⟩ (fun hHeld=>?_);refine with_tabW spec_BuildMonoid.tab24 spec_BuildMonoid.bits24 (fun HT_ HW_=>?_)
              generalize wr.drew=w83 at HO_7 HO_7014000 HO_7014001 BK1 BK2 BK13 HB HL7026_0 HR7026_0 hx7026_0 hHeld ⊢
              refine zy 0 (some 81) HT_.out ?_
              refine zy 2 (some 83) HT_.out ?_
              refine zy 4 (some 85) HT_.out ?_
              refine zy 5 (some 86) HT_.out ?_
              refine zy 6 (some 87) HT_.out ?_
              refine ztk 1 (some 82) HT_.out HW_.out hHeld ?_
              refine ztk 3 (some 84) HT_.out HW_.out hHeld ?_
              refine ztk 7 (some 88) HT_.out HW_.out hHeld ?_
              refine zon 8 (some 89) HT_.out (fun K hK=>?_)
              refine goes_ Try.func29 (by kernel_rfl) rfl #[.slice Ao77 x7014000_2.length co77,.slice A7026_0 (rd_L3 t14 x11_3).length c7026_0] (by rfl) rfl rfl za4 ?_
              with_reducible refine (spec_l13Find.calls k3 _ _ x7014000_2 _ _ (rd_L3 t14 x11_3) t27 _ ?side1 ?side2 ?side3 ?side4 A80.out).mono ?_
              (case side1=>repeat (first|exact (Kd.S_reads' HO_7014000.out).2.2|(with_reducible refine Kd.C_alloc ?_ _)|(with_reducible refine Kd.C_drewN ?_ _)|(with_reducible refine Kd.C_drew ?_)))
              (case side2=>exact (Kd.S_reads' HO_7014000.out).2.1)
              (case side3=>repeat (first|exact (by repeat (first|(with_reducible exact HR7026_0.out)|(with_reducible refine Kd.C_alloc ?_ _)|(with_reducible refine Kd.C_drewN ?_ _)|(with_reducible refine Kd.C_drew ?_)|exact HR7026_0.out))|(with_reducible refine Kd.C_alloc ?_ _)|(with_reducible refine Kd.C_drewN ?_ _)|(with_reducible refine Kd.C_drew ?_)))
              (case side4=>exact HC7026_0.out)
              rintro e w' ⟨rfl,⟨nd,rfl⟩⟩
              refine ⟨_,rfl,?_⟩
              refine hK.out _ _ ⟨(blk_cell BK13.out 0).trans rfl,(blk_cell BK13.out 1).trans rfl,(blk_cell BK13.out 2).trans rfl,hHeld.2.2.2⟩ (fun hHeld=>?_)
              clear hK K
              refine zno (some 89) ?_
              refine zon 9 (some 90) HT_.out (fun K hK=>?_)
              refine value_ (w1:=?_) (v:=?_) (by rfl) rfl ?_ ?_
              rotate_left 2
              ·go_simp
               constructor
               ·rfl
               ·rfl
              refine hK.out _ _ ⟨(blk_cell (blk_alloc BK13.out _) 0).trans rfl,(blk_cell (blk_alloc BK13.out _) 1).trans rfl,(blk_cell (blk_alloc BK13.out _) 2).trans rfl,(World.cell?_alloc_lt _ _ _ (World.block_lt_of_cell? _ _ (hHeld.2.2.2))).trans (hHeld.2.2.2)⟩ (fun hHeld=>?_)
              clear hK K
              refine zno (some 90) ?_
              refine last_ (i:=10) (N:=some 91) #[true,true,true,true,true,true,true,true,true,true,true,false,false] rfl rfl (one_of HT_.out (by kernel_rfl)) (by decide) (fun K hK=>?_)
              refine Kd.R_append_step (Kd.int .i64) (w0:=w) w.heap.size (by rfl) (.tmp 82) (.tmp 90) 29 3 (.int .i64 0) 8 rfl Try.underlying29 info3 rfl (by decide) (by omega) u7014001 x7014001_3 t27 [.int .i64 t27] (fun _=>True) (fun _=>False) rfl rfl ?aP (fun _ hk=>hk.elim) ?aF ?aO ?aB ?aS ?aL ?_
              (case aP=>exact rfl)
              (case aB=>exact za11)
              (case aF=>exact (fun _ _=>trivial))
              (case aO=>exact (za1 HO_7014001.out))
              (case aS=>exact (below_size za11))
              (case aL=>have:=LMc81.out;omega)
              intro v29 w84 ho hb hg hat
              rw [← Ny28.out] at ho
              replace HO_7:=zk (Kd.S_after (ok:=(fun k_=>some k_ ≠ (.slice Ao77 x7014000_2.length co77:Value).ownBlock)) (za2 HO_7.out) hg hat)
              replace HO_7014000:=zk (Kd.S_after (ok:=(fun k_=>some k_ ≠ (.slice (some ad7026) t14.length co82:Value).ownBlock)) (za2 HO_7014000.out) hg hat)
              replace BK1:=zk (blk_grown (g:=gb1) (o:=.cells #[.slice A0_0 l0_0.length c0_0,.slice A0_1 l0_1.length c0_1] 27 (0,0)) (za0 BK1.out) hg (Kd.R_ne HO_7014001.out BK1.out (by decide)))
              replace BK2:=zk (blk_grown (g:=gb2) (o:=.cells #[.slice none 0 0,.slice none 0 0,.slice none 0 0] 31 (0,0)) (za0 BK2.out) hg (Kd.R_ne HO_7014001.out BK2.out (by decide)))
              replace BK13:=zk (blk_grown (g:=gb13) (o:=.cells #[.slice Ao77 x7014000_2.length co77,u7014001,.slice none 0 0] 31 (0,0)) (za0 BK13.out) hg (Kd.R_ne HO_7014001.out BK13.out (by decide)))
              replace HL7026_0:=zk (Kd.R_after (ok:=(fun k_=>some k_ ≠ (.slice (some ad7026) t14.length co82:Value).ownBlock∧some k_ ≠ (.slice Ao77 x7014000_2.length co77:Value).ownBlock)) (by (with_reducible repeat (first|apply Kd.R_alloc|apply Kd.R_drewN|apply Kd.R_drew));exact Kd.R_mono HL7026_0.out (fun _ hk=>⟨⟨hk.2,hk.1.1⟩,hk.1.2⟩)) hg hat)
              replace HB:=zk hb
              have HO30:=zk ho
              clear HO_7014001
              clear ho hb hg hat
              obtain ⟨Ao85,co85,eo85⟩:=Kd.R_slice HO30.out
              (first|subst eo85|(injection eo85 with f1_ f2_ f3_;have f4_:=f1_.symm;have f5_:=f3_.symm;clear f1_ f2_ f3_;subst f4_;subst f5_))
              refine hK.out _ _ ?_
              clear hK K
              refine zno (some 91) ?_
              refine zy 11 (some 92) HT_.out ?_
              refine last_ (i:=12) (N:=none) #[true,true,true,true,true,true,true,true,true,true,true,true,true] rfl rfl (one_of HT_.out (by kernel_rfl)) (by decide) (fun K hK=>?_)
              have hs86:w84.cell? ⟨gb13,1,none⟩=some (u7014001):=(blk_cell BK13.out 1).trans rfl
              have hfs86:=blk_frozen BK13.out 1
              have hns86_0:=NB1_13.out
              have hns86_1:=NB2_13.out
              have hms86_0:=NB13_1.out
              have hms86_1:=NB13_2.out
              refine skip_ (w1:=?_) (by rfl) rfl ?_ ?_
              rotate_left
              ·go_simp
               rfl
              refine hK.out _ _ ?_
              clear hK K
              refine done_ (done_of HT_.out (by kernel_rfl)) ?_
              try go_wp2
              go_roundg k3
              case measure=>have:=HK1.out;have:=HK2.out;have:=HK3.out;omega
              case rel=>exact ⟨(wrap64 (x11_3+1)),(y7028),(.slice Ao85 y7028.length co85),za13,H',⟨za60⟩,⟨by (with_reducible repeat (first|apply Kd.S_alloc|apply Kd.S_drewN|apply Kd.S_drew));exact Kd.S_mono (zfS (Kd.S_types HO_7.out BK13.out (by decide))) (fun _ hk=>⟨hk.1.1,hk.1.2⟩)⟩,⟨by (with_reducible repeat (first|apply Kd.S_alloc|apply Kd.S_drewN|apply Kd.S_drew));exact Kd.S_mono (zfS (Kd.S_types HO_7014000.out BK13.out (by decide))) (fun _ hk=>⟨hk.1.1,hk.1.2⟩)⟩,⟨by (with_reducible repeat (first|apply Kd.R_alloc|apply Kd.R_drewN|apply Kd.R_drew));exact Kd.R_mono (zfR (Kd.R_types HO30.out BK13.out (by decide))) (fun _ hk=>trivial)⟩,⟨zpw BK1.out⟩,⟨zpw BK2.out⟩,⟨zpu BK13.out⟩,⟨za11⟩⟩
             ·rw [if_neg c81] at H
              exact absurd H (by simp)
            ·rw [if_neg c79] at H
             exact absurd H (by simp)
           ·rw [if_neg c78] at H
            have c78b0:=zdnl c78
            clear c78
            have H':=zk H
            clear H
            obtain ⟨Ao87,co87,eo87⟩:=Kd.S_slice HO_7.out
            subst eo87
            go_wp2
            obtain ⟨wT,hwT⟩:∃ W,W=wr:=⟨_,rfl⟩
            subst hwT
            have HST:=zk HB.out.size
            have HMT:=zk (Kd.S_types (Kd.S_bound HO_7014000.out) BK13.out (by decide))
            try simp only [Act.put,zt,zv,zu]
            go_loopg [12] k3 (fun kq v12 w'=>∃ (x12_4:Int) (x7014002_4:List (List Int)) (u7014002:Value),v12 = .int .i64 x12_4∧Aside0 (spec_BuildMonoid.l4 kq x12_4 x7014000_2 x7014001_3 x7014002_4=some (r1,r2,r3,r4))∧Aside0 (kq≤k3)∧Aside0 (Kd.S (Kd.slice 3 (Kd.int .i64)) 29 w' w.heap.size (fun k_=>some k_ ≠ (u7014001:Value).ownBlock∧some k_ ≠ (u7014002:Value).ownBlock) (.slice Ao77 x7014000_2.length co77) x7014000_2)∧Aside0 (Kd.R (Kd.int .i64) 3 w' w.heap.size (fun _=>True) u7014001 x7014001_3)∧Aside0 (Kd.S (Kd.slice 3 (Kd.int .i64)) 29 w' wT.heap.size (fun k_=>some k_ ≠ ((.slice Ao77 x7014000_2.length co77):Value).ownBlock∧some k_ ≠ (u7014001:Value).ownBlock) u7014002 x7014002_4)∧Aside0 (w'.heap[gb1]? = some (.cells #[(.slice A0_0 l0_0.length c0_0),(.slice A0_1 l0_1.length c0_1)] 27 (0,0)))∧Aside0 (w'.heap[gb2]? = some (.cells #[(.slice none 0 0),(.slice none 0 0),(.slice none 0 0)] 31 (0,0)))∧Aside0 (w'.heap[gb13]? = some (.cells #[(.slice Ao77 x7014000_2.length co77),u7014001,u7014002] 31 (0,0)))∧Aside0 (Below w.heap.size w w')∧Aside0 (KeepBut wT w' gb13 none))
            case atStart=>exact ⟨(0),(([]:List (List Int))),(.slice none 0 0),za13,H',⟨Nat.le_refl _⟩,⟨by (with_reducible repeat (first|apply Kd.S_alloc|apply Kd.S_drewN|apply Kd.S_drew));exact Kd.S_mono HO_7014000.out (fun _ hk=>⟨hk.2,za109⟩)⟩,⟨za1 HO_7014001.out⟩,⟨za37⟩,⟨za0 BK1.out⟩,⟨za0 BK2.out⟩,⟨za0 BK13.out⟩,⟨za11⟩,⟨by repeat (first|(with_reducible first|exact KeepBut.refl _ _ _|apply keep_drewN|apply keep_drew|apply keep_alloc)|exact KeepBut.refl _ _ _)⟩⟩
            case round =>
             clear H'
             try clear c2
             try clear p2
             try clear c3
             try clear c4
             try clear c5
             try clear c6
             try clear p6
             try clear c7
             try clear p7
             try clear q7
             try clear hx7
             try clear c8
             try clear c28
             try clear c29
             try clear c29b0
             try clear c34
             try clear c34b0
             try clear c35
             try clear c35b0
             try clear c36
             try clear c36b0
             try clear c37
             try clear c37b0
             try clear c40
             try clear c40b0
             try clear c41
             try clear c46
             try clear c47
             try clear c57
             try clear c58
             try clear c61
             try clear c61b0
             try clear c61b1
             try clear c63
             try clear c64
             try clear p64
             try clear c67
             try clear c70
             try clear p70
             try clear q70
             try clear hx70
             try clear c71
             try clear c74
             try clear c75
             try clear c78
             try clear c78b0
             try clear c79
             try clear c79b0
             try clear c81
             try clear hcz14_1
             try clear hcz19_0
             try clear hcz19_1
             try clear hcz26_0
             try clear hcz26_1
             try clear hcz26_2
             try clear hcz27_0
             try clear hcz27_1
             try clear hcz32_0
             try clear hcz32_1
             try clear hcz32_2
             try clear hcz48_0
             try clear hcz48_1
             try clear hcz48_2
             try clear hcz52_0
             try clear hcz52_1
             try clear hcz52_2
             try clear hcz59_0
             try clear hcz59_1
             try clear hcz59_2
             try clear hcz65_0
             try clear hcz65_1
             try clear hcz65_2
             try clear hcz68_0
             try clear hcz68_1
             try clear hcz68_2
             try clear hcz72_0
             try clear hcz72_1
             try clear hcz72_2
             try clear hcz76_0
             try clear hcz76_1
             try clear hcz76_2
             try clear hcz7_0
             try clear hcz7_1
             try clear hfz14_0
             try clear hfz14_1
             try clear hfz19_0
             try clear hfz19_1
             try clear hfz26_0
             try clear hfz26_1
             try clear hfz26_2
             try clear hfz27_0
             try clear hfz27_1
             try clear hfz32_0
             try clear hfz32_1
             try clear hfz32_2
             try clear hfz48_0
             try clear hfz48_1
             try clear hfz48_2
             try clear hfz52_0
             try clear hfz52_1
             try clear hfz52_2
             try clear hfz59_0
             try clear hfz59_1
             try clear hfz59_2
             try clear hfz65_0
             try clear hfz65_1
             try clear hfz65_2
             try clear hfz68_0
             try clear hfz68_1
             try clear hfz68_2
             try clear hfz72_0
             try clear hfz72_1
             try clear hfz72_2
             try clear hfz76_0
             try clear hfz76_1
             try clear hfz76_2
             try clear hfz7_0
             try clear hfz7_1
             try clear hx7017_0
             try clear hx7018_0
             try clear hx7026_0
             try clear p2
             try clear p6
             try clear p64
             try clear p7
             try clear p70
             try clear p7017
             try clear p7018
             try clear p7026
             try clear q7
             try clear q70
             try clear q7017
             try clear q7018
             try clear q7026
             obtain ⟨x12_4,x7014002_4,u7014002,rfl,HA,HK4,HO_7014000,HO_7014001,HO_7014002,BK1,BK2,BK13,HB,HKT⟩:=hrel
             cases gk with
             | zero=>exact absurd HA.out (by simp [spec_BuildMonoid.l4])
             | succ k4 =>
              have H:=HA.out
              clear HA
              simp only [spec_BuildMonoid.l4] at H
              by_cases c88:x12_4 < (x7014000_2.length:Int)
              ·rw [if_pos c88] at H
               have c88b0:=zdl c88
               clear c88
               obtain ⟨y7031,hy7031⟩:∃ y_:List Int,y_=(([]:List Int)):=⟨_,rfl⟩
               replace H:(spec_BuildMonoid.l5 k4 x12_4 y7031 0 x7014000_2 x7014001_3 x7014002_4)=some (r1,r2,r3,r4):=by first|(rw [hy7031];with_reducible exact H)|(have H2_:=(Option.bind_some _ _).symm.trans H;rw [hy7031];with_reducible exact H2_)|(have H2_:=(Option.bind_some _ _).symm.trans H;with_reducible exact H2_)|with_reducible exact H|(rw [hy7031];exact H)|exact H
               have Ny31:=zk hy7031
               clear hy7031
               have H':=zk H
               clear H
               have hnb89:=NB13_1.out
               have hnc89:=NB1_13.out
               have hnb90:=NB13_2.out
               have hnc90:=NB2_13.out
               have hcz91_0:wr.cell? ⟨gb13,0,none⟩=some (.slice Ao77 x7014000_2.length co77):=(blk_cell BK13.out 0).trans rfl
               have hcz91_1:wr.cell? ⟨gb13,1,none⟩=some (u7014001):=(blk_cell BK13.out 1).trans rfl
               have hcz91_2:wr.cell? ⟨gb13,2,none⟩=some (u7014002):=(blk_cell BK13.out 2).trans rfl
               have hfz91_0:=blk_frozen BK13.out 0
               have hfz91_1:=blk_frozen BK13.out 1
               have hfz91_2:=blk_frozen BK13.out 2
               go_wp2_with (first|((with_reducible refine gate_dst (N:=100) rfl ?_);refine Kd.R_lit (Kd.int .i64) _ 3 ?hg (N:=100) ?hd (xs:=([]:List Int)) (inner:=[]) (ok:=fun _=>True) (okp:=fun _=>True) ?hr ?hp (fun _ hk=>hk) trivial (Below.refl _ _) (Nat.le_refl _) (by simp) ?_;(case hd=>rfl);(case hg=>rfl);(case hr=>first|(go_simp;done)|(go_simp;rfl));(case hp=>exact (Reps.none _ _));intro v32 w92 ho93 hb hg_ hnew_;clear hg_ hnew_;(first|rw [← Ny31.out] at ho93|(simp only [Int.reduceToNat] at ho93;rw [← Ny31.out] at ho93));have n0_:=zk (Kd.S_elder' (za2 HO_7014000.out) (Kd.R_base ho93) hb);have n1_:=zk (Kd.R_elder' (za1 HO_7014001.out) (Kd.R_base ho93) hb);have n2_:=zk (Kd.S_elder' (za2 HO_7014002.out) (Kd.R_base ho93) hb);have n3_:=zk (Kd.R_lower (Kd.R_new' ho93 (Kd.R_lt (za1 HO_7014001.out))) (keep_size (w:=wT) (g:=gb13) (row:=none) za36));have n4_:=yb BK1 hb;have n5_:=yb BK2 hb;have n6_:=yb BK13 hb;have n7_:=zk (below_step za11 hb);replace HKT:=zk (KeepBut.trans za36 (KeepBut.of_below hb gb13 none) (.inl rfl));clear HO_7014000;clear HO_7014001;clear HO_7014002;clear BK1;clear BK2;clear BK13;clear HB;have HO_7014000:=n0_;have HO_7014001:=n1_;have HO_7014002:=n2_;have HO33:=n3_;have BK1:=n4_;have BK2:=n5_;have BK13:=n6_;have HB:=n7_;clear n0_ n1_ n2_ n3_ n4_ n5_ n6_ n7_;clear hb ho93))
               try simp only [Act.put,zt,zv,zu]
               go_loopg [13,14] k4 (fun kq v13 v14 w'=>∃ (x13_5:List Int) (x14_5:Int),v14 = .int .i64 x14_5∧Aside0 (spec_BuildMonoid.l5 kq x12_4 x13_5 x14_5 x7014000_2 x7014001_3 x7014002_4=some (r1,r2,r3,r4))∧Aside0 (kq≤k4)∧Aside0 (Kd.R (Kd.int .i64) 3 w' wT.heap.size (fun k_=>some k_ ≠ (u7014001:Value).ownBlock) v13 x13_5)∧Aside0 (Kd.S (Kd.slice 3 (Kd.int .i64)) 29 w' w.heap.size (fun k_=>some k_ ≠ (v13:Value).ownBlock∧some k_ ≠ (u7014001:Value).ownBlock∧some k_ ≠ (u7014002:Value).ownBlock) (.slice Ao77 x7014000_2.length co77) x7014000_2)∧Aside0 (Kd.R (Kd.int .i64) 3 w' w.heap.size (fun k_=>some k_ ≠ (v13:Value).ownBlock) u7014001 x7014001_3)∧Aside0 (Kd.S (Kd.slice 3 (Kd.int .i64)) 29 w' wT.heap.size (fun k_=>some k_ ≠ (v13:Value).ownBlock∧some k_ ≠ ((.slice Ao77 x7014000_2.length co77):Value).ownBlock∧some k_ ≠ (u7014001:Value).ownBlock) u7014002 x7014002_4)∧Aside0 (w'.heap[gb1]? = some (.cells #[(.slice A0_0 l0_0.length c0_0),(.slice A0_1 l0_1.length c0_1)] 27 (0,0)))∧Aside0 (w'.heap[gb2]? = some (.cells #[(.slice none 0 0),(.slice none 0 0),(.slice none 0 0)] 31 (0,0)))∧Aside0 (w'.heap[gb13]? = some (.cells #[(.slice Ao77 x7014000_2.length co77),u7014001,u7014002] 31 (0,0)))∧Aside0 (Below w.heap.size w w')∧Aside0 (KeepBut wT w' gb13 none))
               case atStart=>exact ⟨(y7031),(0),za13,H',⟨Nat.le_refl _⟩,⟨by (with_reducible repeat (first|apply Kd.R_alloc|apply Kd.R_drewN|apply Kd.R_drew));exact Kd.R_mono HO33.out (fun _ hk=>hk.2)⟩,⟨by (with_reducible repeat (first|apply Kd.S_alloc|apply Kd.S_drewN|apply Kd.S_drew));exact Kd.S_mono HO_7014000.out (fun _ hk=>⟨hk.2,⟨hk.1.1,hk.1.2⟩⟩)⟩,⟨za111⟩,⟨by (with_reducible repeat (first|apply Kd.S_alloc|apply Kd.S_drewN|apply Kd.S_drew));exact Kd.S_mono HO_7014002.out (fun _ hk=>⟨hk.2,⟨hk.1.1,hk.1.2⟩⟩)⟩,⟨za0 BK1.out⟩,⟨za0 BK2.out⟩,⟨za0 BK13.out⟩,⟨za11⟩,⟨za36⟩⟩
               case round =>
                clear H'
                try clear c2
                try clear p2
                try clear c3
                try clear c4
                try clear c5
                try clear c6
                try clear p6
                try clear c7
                try clear p7
                try clear q7
                try clear hx7
                try clear c8
                try clear c9
                try clear c28
                try clear c29
                try clear c29b0
                try clear c34
                try clear c34b0
                try clear c35
                try clear c35b0
                try clear c36
                try clear c36b0
                try clear c37
                try clear c37b0
                try clear c40
                try clear c40b0
                try clear c41
                try clear c46
                try clear c47
                try clear c57
                try clear c58
                try clear c61
                try clear c61b0
                try clear c61b1
                try clear c63
                try clear c64
                try clear p64
                try clear c67
                try clear c70
                try clear p70
                try clear q70
                try clear hx70
                try clear c71
                try clear c74
                try clear c75
                try clear c78
                try clear c78b0
                try clear c79
                try clear c79b0
                try clear c81
                try clear c88
                try clear c88b0
                try clear c89
                try clear c90
                try clear hcz14_1
                try clear hcz19_0
                try clear hcz19_1
                try clear hcz26_0
                try clear hcz26_1
                try clear hcz26_2
                try clear hcz27_0
                try clear hcz27_1
                try clear hcz32_0
                try clear hcz32_1
                try clear hcz32_2
                try clear hcz48_0
                try clear hcz48_1
                try clear hcz48_2
                try clear hcz52_0
                try clear hcz52_1
                try clear hcz52_2
                try clear hcz59_0
                try clear hcz59_1
                try clear hcz59_2
                try clear hcz65_0
                try clear hcz65_1
                try clear hcz65_2
                try clear hcz68_0
                try clear hcz68_1
                try clear hcz68_2
                try clear hcz72_0
                try clear hcz72_1
                try clear hcz72_2
                try clear hcz76_0
                try clear hcz76_1
                try clear hcz76_2
                try clear hcz7_0
                try clear hcz7_1
                try clear hcz91_0
                try clear hcz91_1
                try clear hcz91_2
                try clear hfz14_0
                try clear hfz14_1
                try clear hfz19_0
                try clear hfz19_1
                try clear hfz26_0
                try clear hfz26_1
                try clear hfz26_2
                try clear hfz27_0
                try clear hfz27_1
                try clear hfz32_0
                try clear hfz32_1
                try clear hfz32_2
                try clear hfz48_0
                try clear hfz48_1
                try clear hfz48_2
                try clear hfz52_0
                try clear hfz52_1
                try clear hfz52_2
                try clear hfz59_0
                try clear hfz59_1
                try clear hfz59_2
                try clear hfz65_0
                try clear hfz65_1
                try clear hfz65_2
                try clear hfz68_0
                try clear hfz68_1
                try clear hfz68_2
                try clear hfz72_0
                try clear hfz72_1
                try clear hfz72_2
                try clear hfz76_0
                try clear hfz76_1
                try clear hfz76_2
                try clear hfz7_0
                try clear hfz7_1
                try clear hfz91_0
                try clear hfz91_1
                try clear hfz91_2
                try clear hx7017_0
                try clear hx7018_0
                try clear hx7026_0
                try clear p2
                try clear p6
                try clear p64
                try clear p7
                try clear p70
                try clear p7017
                try clear p7018
                try clear p7026
                try clear q7
                try clear q70
                try clear q7017
                try clear q7018
                try clear q7026
                obtain ⟨x13_5,x14_5,rfl,HA,HK5,HO_13,HO_7014000,HO_7014001,HO_7014002,BK1,BK2,BK13,HB,HKT⟩:=hrel
                cases gk with
                | zero=>exact absurd HA.out (by simp [spec_BuildMonoid.l5])
                | succ k5 =>
                 have H:=HA.out
                 clear HA
                 simp only [spec_BuildMonoid.l5] at H
                 by_cases c94:x14_5 < (x7014000_2.length:Int)
                 ·rw [if_pos c94] at H
                  have c94b0:=zdl c94
                  clear c94
                  by_cases c95:0≤x12_4
                  ·rw [if_pos c95] at H
                   have c95b0:=zdle c95
                   clear c95
                   by_cases c96:x12_4 < (x7014000_2.length:Int)
                   ·rw [if_pos c96] at H
                    have c96b0:=zdl c96
                    clear c96
                    by_cases c97:0≤x14_5
                    ·rw [if_pos c97] at H
                     have c97b0:=zdle c97
                     clear c97
                     obtain ⟨t36,A98,H⟩:=zO H
                     try dsimp only at H
                     obtain ⟨t39,A99,H⟩:=zO H
                     try dsimp only at H
                     by_cases c100:x13_5.length < 17592186044416
                     ·rw [if_pos c100] at H
                      have LMc100:=zk c100
                      clear c100
                      obtain ⟨y7040,hy7040⟩:∃ y_:List Int,y_=(x13_5 ++ [t39]):=⟨_,rfl⟩
                      replace H:(spec_BuildMonoid.l5 k5 x12_4 y7040 (wrap64 (x14_5+1)) x7014000_2 x7014001_3 x7014002_4)=some (r1,r2,r3,r4):=by first|(rw [hy7040];with_reducible exact H)|(have H2_:=(Option.bind_some _ _).symm.trans H;rw [hy7040];with_reducible exact H2_)|(have H2_:=(Option.bind_some _ _).symm.trans H;with_reducible exact H2_)|with_reducible exact H|(rw [hy7040];exact H)|exact H
                      have Ny40:=zk hy7040
                      clear hy7040
                      have H':=zk H
                      clear H
                      have hnb101:=NB13_1.out
                      have hnc101:=NB1_13.out
                      have hnb102:=NB13_2.out
                      have hnc102:=NB2_13.out
                      have hcz103_0:wr.cell? ⟨gb13,0,none⟩=some (.slice Ao77 x7014000_2.length co77):=(blk_cell BK13.out 0).trans rfl
                      have hcz103_1:wr.cell? ⟨gb13,1,none⟩=some (u7014001):=(blk_cell BK13.out 1).trans rfl
                      have hcz103_2:wr.cell? ⟨gb13,2,none⟩=some (u7014002):=(blk_cell BK13.out 2).trans rfl
                      have hfz103_0:=blk_frozen BK13.out 0
                      have hfz103_1:=blk_frozen BK13.out 1
                      have hfz103_2:=blk_frozen BK13.out 2
                      try go_wp2
                      have n0_:=zk (Kd.R_drew HO_13.out)
                      have n1_:=zk (Kd.S_drew HO_7014000.out)
                      have n2_:=zk (Kd.R_drew HO_7014001.out)
                      have n3_:=zk (Kd.S_drew HO_7014002.out)
                      have n4_:=zk (blk_drew BK1.out)
                      have n5_:=zk (blk_drew BK2.out)
                      have n6_:=zk (blk_drew BK13.out)
                      have n7_:=zk (below_drew1 HB.out)
                      replace HKT:=zk (keep_drew HKT.out)
                      clear HO_13
                      clear HO_7014000
                      clear HO_7014001
                      clear HO_7014002
                      clear BK1
                      clear BK2
                      clear BK13
                      clear HB
                      have HO_13:=n0_
                      have HO_7014000:=n1_
                      have HO_7014001:=n2_
                      have HO_7014002:=n3_
                      have BK1:=n4_
                      have BK2:=n5_
                      have BK13:=n6_
                      have HB:=n7_
                      clear n0_ n1_ n2_ n3_ n4_ n5_ n6_ n7_
                      have p7034:0≤(x12_4:Int):=of_decide_eq_true za7
                      have q7034:x12_4 < (x7014000_2.length:Int):=of_decide_eq_true za7
                      obtain ⟨ad7034,A7034_0,c7034_0,e7034,hx7034_0,hl7034_0,hi7034_0⟩:=at_L3 (Kd.S_reads' HO_7014000.out).2.2 x12_4 p7034 q7034
                      cases e7034
                      obtain ⟨ce7034,hce7034,hMe7034,hcc7034⟩:=Kd.S_get HO_7014000.out [] x12_4 p7034 (by first|exact q7034|exact of_decide_eq_true za7|(have e_:=(Kd.S_reads' HO_7014000.out).1;omega))
                      obtain ⟨ve7034_0,rfl,ge7034_0⟩:=hMe7034
                      have hv7034_0:=hcc7034 0 _ rfl
                      rw [Nat.add_zero,show ((Kd.slice 3 (Kd.int .i64))).sz=1 from rfl,Nat.mul_one] at hv7034_0
                      replace hv7034_0:=zi (hv7034_0.symm.trans hx7034_0)
                      rw [hv7034_0] at ge7034_0
                      have HL7034_0:=zk (show Kd.R (Kd.int .i64) 3 _ _ _ _ (rd_L3 x7014000_2 x12_4) from ge7034_0)
                      clear hv7034_0 ge7034_0
                      clear hcc7034 hce7034
                      have HR7034_0:=zk hi7034_0
                      have HC7034_0:=zk hl7034_0
                      clear hi7034_0 hl7034_0
                      replace p7034:=eq_true p7034
                      replace q7034:=eq_true q7034
                      have p7035:0≤(x14_5:Int):=of_decide_eq_true za7
                      have q7035:x14_5 < (x7014000_2.length:Int):=of_decide_eq_true za7
                      obtain ⟨ad7035,A7035_0,c7035_0,e7035,hx7035_0,hl7035_0,hi7035_0⟩:=at_L3 (Kd.S_reads' HO_7014000.out).2.2 x14_5 p7035 q7035
                      obtain rfl:ad7034=ad7035:=(by injection e7035)
                      obtain ⟨ce7035,hce7035,hMe7035,hcc7035⟩:=Kd.S_get HO_7014000.out [] x14_5 p7035 (by first|exact q7035|exact of_decide_eq_true za7|(have e_:=(Kd.S_reads' HO_7014000.out).1;omega))
                      obtain ⟨ve7035_0,rfl,ge7035_0⟩:=hMe7035
                      have hv7035_0:=hcc7035 0 _ rfl
                      rw [Nat.add_zero,show ((Kd.slice 3 (Kd.int .i64))).sz=1 from rfl,Nat.mul_one] at hv7035_0
                      replace hv7035_0:=zi (hv7035_0.symm.trans hx7035_0)
                      rw [hv7035_0] at ge7035_0
                      have HL7035_0:=zk (show Kd.R (Kd.int .i64) 3 _ _ _ _ (rd_L3 x7014000_2 x14_5) from ge7035_0)
                      clear hv7035_0 ge7035_0
                      clear hcc7035 hce7035
                      have HR7035_0:=zk hi7035_0
                      have HC7035_0:=zk hl7035_0
                      clear hi7035_0 hl7035_0
                      replace p7035:=eq_true p7035
                      replace q7035:=eq_true q7035
                      refine start_ (n:=18) (S:=fun w'=>w'.cell? ⟨gb13,0,none⟩=some (.slice (some ad7034) x7014000_2.length co77)∧w'.cell? ⟨gb13,1,none⟩=some (u7014001)∧w'.cell? ⟨gb13,2,none⟩=some (u7014002)∧w'.cell? (ad7034.add (x12_4).toNat)=some (.slice A7034_0 (rd_L3 x7014000_2 x12_4).length c7034_0)∧w'.cell? (ad7034.add (x14_5).toNat)=some (.slice A7035_0 (rd_L3 x7014000_2 x14_5).length c7035_0)) (ds:=[15,16]) #[false,false,false,false,false,false,false,false,false,false,false,false,false,false,false,false,false,false] (by kernel_rfl) rfl rfl ⟨(blk_cell BK13.out 0).trans rfl,(blk_cell BK13.out 1).trans rfl,(blk_cell BK13.out 2).trans rfl,hx7034_0,hx7035_0⟩ (fun hHeld=>?_);refine with_tabW spec_BuildMonoid.tab32 spec_BuildMonoid.bits32 (fun HT_ HW_=>?_)
                      generalize wr.drew=w104 at HO_13 HO_7014000 HO_7014001 HO_7014002 BK1 BK2 BK13 HB HKT HL7034_0 HL7035_0 HR7034_0 HR7035_0 hx7034_0 hx7035_0 hHeld ⊢
                      refine zy 0 (some 108) HT_.out ?_
                      refine zy 1 (some 109) HT_.out ?_
                      refine zy 3 (some 111) HT_.out ?_
                      refine zy 5 (some 113) HT_.out ?_
                      refine zy 8 (some 116) HT_.out ?_
                      refine zy 10 (some 118) HT_.out ?_
                      refine ztk 2 (some 110) HT_.out HW_.out hHeld ?_
                      refine ztk 4 (some 112) HT_.out HW_.out hHeld ?_
                      refine zy 6 (some 114) HT_.out ?_
                      refine ztk 7 (some 115) HT_.out HW_.out hHeld ?_
                      refine ztk 9 (some 117) HT_.out HW_.out hHeld ?_
                      refine zy 11 (some 119) HT_.out ?_
                      refine ztk 12 (some 120) HT_.out HW_.out hHeld ?_
                      refine zon 13 (some 121) HT_.out (fun K hK=>?_)
                      refine goes_ Try.func28 (by kernel_rfl) rfl #[.slice A7034_0 (rd_L3 x7014000_2 x12_4).length c7034_0,.slice A7035_0 (rd_L3 x7014000_2 x14_5).length c7035_0] (by rfl) rfl rfl za4 ?_
                      with_reducible refine (spec_l13After.calls k5 _ _ (rd_L3 x7014000_2 x12_4) _ _ (rd_L3 x7014000_2 x14_5) t36 _ ?side1 ?side2 ?side3 ?side4 A98.out).mono ?_
                      (case side1=>repeat (first|exact za72|(with_reducible refine Kd.C_alloc ?_ _)|(with_reducible refine Kd.C_drewN ?_ _)|(with_reducible refine Kd.C_drew ?_)))
                      (case side2=>exact HC7034_0.out)
                      (case side3=>repeat (first|exact za71|(with_reducible refine Kd.C_alloc ?_ _)|(with_reducible refine Kd.C_drewN ?_ _)|(with_reducible refine Kd.C_drew ?_)))
                      (case side4=>exact HC7035_0.out)
                      rintro e w105 ⟨v37,rfl,ho0,hb⟩
                      have HS3_:=(hb.cell (World.block_lt_of_cell? _ _ (hHeld.2.2.2.1))).trans (hHeld.2.2.2.1)
                      have HS4_:=(hb.cell (World.block_lt_of_cell? _ _ (hHeld.2.2.2.2))).trans (hHeld.2.2.2.2)
                      refine ⟨_,rfl,?_⟩
                      have n0_:=zk (Kd.R_elder' (za1 HO_13.out) (Kd.R_base ho0) hb)
                      have n1_:=zk (Kd.S_elder' (za2 HO_7014000.out) (Kd.R_base ho0) hb)
                      have n2_:=zk (Kd.R_elder' (za1 HO_7014001.out) (Kd.R_base ho0) hb)
                      have n3_:=zk (Kd.S_elder' (za2 HO_7014002.out) (Kd.R_base ho0) hb)
                      have n4_:=zk (Kd.R_elder' (za1 HL7034_0.out) (Kd.R_base ho0) hb)
                      have n5_:=zk (Kd.R_elder' (za1 HL7035_0.out) (Kd.R_base ho0) hb)
                      have n6_:=zk (Kd.R_lower (Kd.R_new' (Kd.R_new' (Kd.R_new' (Kd.R_new' ho0 (Kd.R_lt (za1 HO_13.out))) (Kd.R_lt (za1 HO_7014001.out))) (Kd.R_lt (za1 HL7034_0.out))) (Kd.R_lt (za1 HL7035_0.out))) (below_size za11))
                      have n7_:=yb BK1 hb
                      have n8_:=yb BK2 hb
                      have n9_:=yb BK13 hb
                      have n10_:=zk (Kd.C_below za72 hb)
                      have n11_:=zk (Kd.C_below za71 hb)
                      have n12_:=zk (below_step za11 hb)
                      replace HKT:=zk (KeepBut.trans HKT.out (KeepBut.of_below hb gb13 none) (.inl rfl))
                      clear HO_13
                      clear HO_7014000
                      clear HO_7014001
                      clear HO_7014002
                      clear HL7034_0
                      clear HL7035_0
                      clear BK1
                      clear BK2
                      clear BK13
                      clear HR7034_0
                      clear HR7035_0
                      clear HB
                      have HO_13:=n0_
                      have HO_7014000:=n1_
                      have HO_7014001:=n2_
                      have HO_7014002:=n3_
                      have HL7034_0:=n4_
                      have HL7035_0:=n5_
                      have HO38:=n6_
                      have BK1:=n7_
                      have BK2:=n8_
                      have BK13:=n9_
                      have HR7034_0:=n10_
                      have HR7035_0:=n11_
                      have HB:=n12_
                      clear n0_ n1_ n2_ n3_ n4_ n5_ n6_ n7_ n8_ n9_ n10_ n11_ n12_
                      (try clear hb)
                      (try clear hb2)
                      (try clear hk)
                      (try clear hi)
                      (try clear ho0)
                      obtain ⟨Ao106,co106,eo106⟩:=Kd.R_slice HO38.out
                      (first|subst eo106|(injection eo106 with f1_ f2_ f3_;have f4_:=f1_.symm;have f5_:=f3_.symm;clear f1_ f2_ f3_;subst f4_;subst f5_))
                      refine hK.out _ _ ⟨(blk_cell BK13.out 0).trans rfl,(blk_cell BK13.out 1).trans rfl,(blk_cell BK13.out 2).trans rfl,HS3_,HS4_⟩ (fun hHeld=>?_)
                      clear hK K
                      refine zno (some 121) ?_
                      refine zon 14 (some 122) HT_.out (fun K hK=>?_)
                      refine goes_ Try.func29 (by kernel_rfl) rfl #[.slice (some ad7034) x7014000_2.length co77,.slice Ao106 t36.length co106] (by rfl) rfl rfl za4 ?_
                      with_reducible refine (spec_l13Find.calls k5 _ _ x7014000_2 _ _ t36 t39 _ ?side1 ?side2 ?side3 ?side4 A99.out).mono ?_
                      (case side1=>repeat (first|exact (Kd.S_reads' HO_7014000.out).2.2|(with_reducible refine Kd.C_alloc ?_ _)|(with_reducible refine Kd.C_drewN ?_ _)|(with_reducible refine Kd.C_drew ?_)))
                      (case side2=>exact (Kd.S_reads' HO_7014000.out).2.1)
                      (case side3=>repeat (first|exact (Kd.R_reads' HO38.out).2.2|(with_reducible refine Kd.C_alloc ?_ _)|(with_reducible refine Kd.C_drewN ?_ _)|(with_reducible refine Kd.C_drew ?_)))
                      (case side4=>exact (Kd.R_reads' HO38.out).2.1)
                      rintro e w' ⟨rfl,⟨nd,rfl⟩⟩
                      refine ⟨_,rfl,?_⟩
                      refine hK.out _ _ ⟨(blk_cell BK13.out 0).trans rfl,(blk_cell BK13.out 1).trans rfl,(blk_cell BK13.out 2).trans rfl,hHeld.2.2.2.1,hHeld.2.2.2.2⟩ (fun hHeld=>?_)
                      clear hK K
                      refine zno (some 122) ?_
                      refine last_ (i:=15) (N:=some 123) #[true,true,true,true,true,true,true,true,true,true,true,true,true,true,true,true,false,false] rfl rfl (one_of HT_.out (by kernel_rfl)) (by decide) (fun K hK=>?_)
                      refine value_ (w1:=?_) (v:=?_) (by rfl) rfl ?_ ?_
                      rotate_left 2
                      ·go_simp
                       constructor
                       ·rfl
                       ·rfl
                      refine hK.out _ _ ?_
                      clear hK K
                      refine zno (some 123) ?_
                      refine last_ (i:=16) (N:=some 124) #[true,true,true,true,true,true,true,true,true,true,true,true,true,true,true,true,true,false] rfl rfl (one_of HT_.out (by kernel_rfl)) (by decide) (fun K hK=>?_)
                      refine Kd.R_append_step (Kd.int .i64) (w0:=?W1) wT.heap.size (by rfl) (.tmp 108) (.tmp 123) 29 3 (.int .i64 0) 8 rfl Try.underlying29 info3 rfl (by decide) (by omega) u13 x13_5 t39 [.int .i64 t39] (fun k_=>some k_ ≠ (u7014001:Value).ownBlock∧some k_ ≠ (.slice Ao106 t36.length co106:Value).ownBlock) (fun _=>False) rfl rfl ?aP (fun _ hk=>hk.elim) ?aF ?aO ?aB ?aS ?aL ?_
                      (case aP=>exact rfl)
                      (case aB=>exact Below.refl _ _)
                      (case aF=>exact (fun k_ hk=>⟨Kd.fresh' (Kd.R_lt (za1 HO_7014001.out)) k_ hk,Kd.fresh' (Kd.R_lt (za1 HO38.out)) k_ hk⟩))
                      (case aO=>exact (za1 HO_13.out))
                      (case aS=>exact HKT.out.1)
                      (case aL=>have:=LMc100.out;omega)
                      intro v41 w107 ho hb hg hat
                      rw [← Ny40.out] at ho
                      have n0_:=zk (Kd.S_after (ok:=(fun k_=>some k_ ≠ (u7014001:Value).ownBlock∧some k_ ≠ (u7014002:Value).ownBlock∧some k_ ≠ (.slice Ao106 t36.length co106:Value).ownBlock)) (by (with_reducible repeat (first|apply Kd.S_alloc|apply Kd.S_drewN|apply Kd.S_drew));exact Kd.S_mono HO_7014000.out (fun _ hk=>⟨⟨hk.1.2.1,⟨hk.1.2.2,hk.2⟩⟩,hk.1.1⟩)) hg hat)
                      have n1_:=zk (Kd.R_after (ok:=(fun k_=>some k_ ≠ (.slice Ao106 t36.length co106:Value).ownBlock)) (by (with_reducible repeat (first|apply Kd.R_alloc|apply Kd.R_drewN|apply Kd.R_drew));exact Kd.R_mono HO_7014001.out (fun _ hk=>⟨hk.2,hk.1⟩)) hg hat)
                      have n2_:=zk (Kd.S_after (ok:=(fun k_=>some k_ ≠ (.slice (some ad7034) x7014000_2.length co77:Value).ownBlock∧some k_ ≠ (u7014001:Value).ownBlock∧some k_ ≠ (.slice Ao106 t36.length co106:Value).ownBlock)) (by (with_reducible repeat (first|apply Kd.S_alloc|apply Kd.S_drewN|apply Kd.S_drew));exact Kd.S_mono HO_7014002.out (fun _ hk=>⟨⟨hk.1.2.1,⟨hk.1.2.2,hk.2⟩⟩,hk.1.1⟩)) hg hat)
                      have n3_:=zk (blk_grown (g:=gb1) (o:=.cells #[.slice A0_0 l0_0.length c0_0,.slice A0_1 l0_1.length c0_1] 27 (0,0)) (za0 BK1.out) hg (Kd.R_ne HO_13.out BK1.out (by decide)))
                      have n4_:=zk (blk_grown (g:=gb2) (o:=.cells #[.slice none 0 0,.slice none 0 0,.slice none 0 0] 31 (0,0)) (za0 BK2.out) hg (Kd.R_ne HO_13.out BK2.out (by decide)))
                      have n5_:=zk (blk_grown (g:=gb13) (o:=.cells #[.slice (some ad7034) x7014000_2.length co77,u7014001,u7014002] 31 (0,0)) (za0 BK13.out) hg (Kd.R_ne HO_13.out BK13.out (by decide)))
                      have n6_:=zk (Kd.R_after (ok:=(fun k_=>some k_ ≠ (.slice (some ad7034) x7014000_2.length co77:Value).ownBlock∧some k_ ≠ (u7014001:Value).ownBlock∧some k_ ≠ (u7014002:Value).ownBlock∧some k_ ≠ (.slice Ao106 t36.length co106:Value).ownBlock)) (by (with_reducible repeat (first|apply Kd.R_alloc|apply Kd.R_drewN|apply Kd.R_drew));exact Kd.R_mono HL7034_0.out (fun _ hk=>⟨⟨hk.1.2,⟨hk.1.1.2.1,⟨hk.1.1.2.2,hk.2⟩⟩⟩,hk.1.1.1⟩)) hg hat)
                      have n7_:=zk (Kd.R_after (ok:=(fun k_=>some k_ ≠ (.slice (some ad7034) x7014000_2.length co77:Value).ownBlock∧some k_ ≠ (u7014001:Value).ownBlock∧some k_ ≠ (u7014002:Value).ownBlock∧some k_ ≠ (.slice Ao106 t36.length co106:Value).ownBlock)) (by (with_reducible repeat (first|apply Kd.R_alloc|apply Kd.R_drewN|apply Kd.R_drew));exact Kd.R_mono HL7035_0.out (fun _ hk=>⟨⟨hk.1.2,⟨hk.1.1.2.1,⟨hk.1.1.2.2,hk.2⟩⟩⟩,hk.1.1.1⟩)) hg hat)
                      have n8_:=zk (Kd.R_after (ok:=(fun k_=>some k_ ≠ (u7014001:Value).ownBlock∧some k_ ≠ (.slice A7034_0 (rd_L3 x7014000_2 x12_4).length c7034_0:Value).ownBlock∧some k_ ≠ (.slice A7035_0 (rd_L3 x7014000_2 x14_5).length c7035_0:Value).ownBlock)) (by (with_reducible repeat (first|apply Kd.R_alloc|apply Kd.R_drewN|apply Kd.R_drew));exact Kd.R_mono HO38.out (fun _ hk=>⟨⟨hk.1.1.2,⟨hk.1.2,hk.2⟩⟩,hk.1.1.1.2⟩)) hg hat)
                      have n9_:=zk (below_own (by with_reducible first|exact HB.out|(apply pw_below_drewN;exact HB.out)) hb HST.out)
                      replace HKT:=zk (keep_own (wT:=wT) (g:=gb13) (by with_reducible first|exact HKT.out|(apply keep_drewN;exact HKT.out)) hg (Kd.R_base HO_13.out))
                      have n10_:=zk ho
                      clear HO_7014000
                      clear HO_7014001
                      clear HO_7014002
                      clear BK1
                      clear BK2
                      clear BK13
                      clear HL7034_0
                      clear HL7035_0
                      clear HO38
                      clear HB
                      clear HO_13
                      have HO_7014000:=n0_
                      have HO_7014001:=n1_
                      have HO_7014002:=n2_
                      have BK1:=n3_
                      have BK2:=n4_
                      have BK13:=n5_
                      have HL7034_0:=n6_
                      have HL7035_0:=n7_
                      have HO38:=n8_
                      have HB:=n9_
                      have HO42:=n10_
                      clear n0_ n1_ n2_ n3_ n4_ n5_ n6_ n7_ n8_ n9_ n10_
                      clear ho hb hg hat
                      refine hK.out _ _ ?_
                      clear hK K
                      refine zno (some 124) ?_
                      refine zy 17 (some 13) HT_.out ?_
                      refine done_ (done_of HT_.out (by kernel_rfl)) ?_
                      try go_wp2
                      go_roundg k5
                      case measure=>have:=HK1.out;have:=HK2.out;have:=HK3.out;have:=HK4.out;have:=HK5.out;omega
                      case rel=>exact ⟨(y7040),(wrap64 (x14_5+1)),za13,H',⟨by have:=HK1.out;have:=HK2.out;have:=HK3.out;have:=HK4.out;have:=HK5.out;omega⟩,⟨by (with_reducible repeat (first|apply Kd.R_alloc|apply Kd.R_drewN|apply Kd.R_drew));exact Kd.R_mono HO42.out (fun _ hk=>hk.1)⟩,⟨by (with_reducible repeat (first|apply Kd.S_alloc|apply Kd.S_drewN|apply Kd.S_drew));exact Kd.S_mono HO_7014000.out (fun _ hk=>⟨hk.2,⟨hk.1.1,hk.1.2.1⟩⟩)⟩,⟨za111⟩,⟨by (with_reducible repeat (first|apply Kd.S_alloc|apply Kd.S_drewN|apply Kd.S_drew));exact Kd.S_mono HO_7014002.out (fun _ hk=>⟨hk.2,⟨hk.1.1,hk.1.2.1⟩⟩)⟩,⟨za0 BK1.out⟩,⟨za0 BK2.out⟩,⟨za0 BK13.out⟩,⟨za11⟩,⟨za36⟩⟩
                     ·rw [if_neg c100] at H
                      exact absurd H (by simp)
                    ·rw [if_neg c97] at H
                     exact absurd H (by simp)
                   ·rw [if_neg c96] at H
                    exact absurd H (by simp)
                  ·rw [if_neg c95] at H
                   exact absurd H (by simp)
                 ·rw [if_neg c94] at H
                  have c94b0:=zdnl c94
                  clear c94
                  by_cases c108:x7014002_4.length < 5864062014805
                  ·rw [if_pos c108] at H
                   have LMc108:=zk c108
                   clear c108
                   obtain ⟨y7043,hy7043⟩:∃ y_:List (List Int),y_=(x7014002_4 ++ [x13_5]):=⟨_,rfl⟩
                   replace H:(spec_BuildMonoid.l4 k5 (wrap64 (x12_4+1)) x7014000_2 x7014001_3 y7043)=some (r1,r2,r3,r4):=by first|(rw [hy7043];with_reducible exact H)|(have H2_:=(Option.bind_some _ _).symm.trans H;rw [hy7043];with_reducible exact H2_)|(have H2_:=(Option.bind_some _ _).symm.trans H;with_reducible exact H2_)|with_reducible exact H|(rw [hy7043];exact H)|exact H
                   have Ny43:=zk hy7043
                   clear hy7043
                   have H':=zk H
                   clear H
                   have hnb109:=NB13_1.out
                   have hnc109:=NB1_13.out
                   have hnb110:=NB13_2.out
                   have hnc110:=NB2_13.out
                   have hcz111_0:wr.cell? ⟨gb13,0,none⟩=some (.slice Ao77 x7014000_2.length co77):=(blk_cell BK13.out 0).trans rfl
                   have hcz111_1:wr.cell? ⟨gb13,1,none⟩=some (u7014001):=(blk_cell BK13.out 1).trans rfl
                   have hcz111_2:wr.cell? ⟨gb13,2,none⟩=some (u7014002):=(blk_cell BK13.out 2).trans rfl
                   have hfz111_0:=blk_frozen BK13.out 0
                   have hfz111_1:=blk_frozen BK13.out 1
                   have hfz111_2:=blk_frozen BK13.out 2
                   obtain ⟨Ao113,co113,eo113⟩:=Kd.R_slice HO_13.out
                   subst eo113
                   go_wp2_with (first|((with_reducible refine gate_builtin (b:=.append) (xs:=#[.tmp 126,.tmp 128]) rfl ?_);at_builtin;refine Kd.S_append (Kd.slice 3 (Kd.int .i64)) (w0:=?W0) wT.heap.size rfl (.tmp 126) (.tmp 128) 25 29 (.slice none 0 0) 24 rfl Try.underlying25 info29 rfl (by decide) (by omega) u7014002 x7014002_4 x13_5 [.slice Ao113 x13_5.length co113] (fun k_=>some k_ ≠ (.slice Ao77 x7014000_2.length co77:Value).ownBlock∧some k_ ≠ (u7014001:Value).ownBlock) (fun k_=>some k_=(.slice Ao113 x13_5.length co113:Value).ownBlock) rfl rfl ?aP (fun k_ hk_=>((Kd.R_mono (ok':=fun k_=>((fun k_=>some k_ ≠ (.slice Ao77 x7014000_2.length co77:Value).ownBlock∧some k_ ≠ (u7014001:Value).ownBlock)) k_∧some k_ ≠ (u7014002:Value).ownBlock) (Kd.R_apart' (Kd.R_apart' (HO_13.out) (Kd.S_typed HO_7014000.out) (by decide)) (Kd.S_typed HO_7014002.out) (by decide)) (fun k_ hk=>⟨⟨hk.1.2,hk.1.1⟩,hk.2⟩))).1 k_ hk_.symm) ?aF ?aO ?aB ?aS ?aL ?_;(case aP=>exact Kd.M_row (Kd.R_mono (Kd.R_tight rfl (Kd.R_mono (ok':=fun k_=>((fun k_=>some k_ ≠ (.slice Ao77 x7014000_2.length co77:Value).ownBlock∧some k_ ≠ (u7014001:Value).ownBlock)) k_∧some k_ ≠ (u7014002:Value).ownBlock) (Kd.R_apart' (Kd.R_apart' (HO_13.out) (Kd.S_typed HO_7014000.out) (by decide)) (Kd.S_typed HO_7014002.out) (by decide)) (fun k_ hk=>⟨⟨hk.1.2,hk.1.1⟩,hk.2⟩))) (fun _ h_=>h_)));(case aB=>exact Below.refl _ _);(case aF=>exact (fun k_ hk=>⟨Kd.fresh' (Kd.S_lt (za2 HO_7014000.out)) k_ hk,Kd.fresh' (Kd.R_lt (za1 HO_7014001.out)) k_ hk⟩));(case aO=>exact (by (with_reducible repeat (first|apply Kd.S_alloc|apply Kd.S_drewN|apply Kd.S_drew));exact Kd.S_mono HO_7014002.out (fun k_ hk=>⟨⟨hk.2.1,hk.2.2⟩,fun e_=>hk.1 e_⟩)));(case aS=>exact (keep_size (w:=wT) (g:=gb13) (row:=none) za36));(case aL=>have:=LMc108.out;omega);intro v44 w112 ho hb hg hat;rw [← Ny43.out] at ho;have n0_:=zk (Kd.S_after (ok:=(fun k_=>some k_ ≠ (.slice Ao113 x13_5.length co113:Value).ownBlock∧some k_ ≠ (u7014001:Value).ownBlock)) (by (with_reducible repeat (first|apply Kd.S_alloc|apply Kd.S_drewN|apply Kd.S_drew));exact Kd.S_mono HO_7014000.out (fun _ hk=>⟨⟨hk.1,hk.2.1⟩,hk.2.2⟩)) hg hat);have n1_:=zk (Kd.R_over' (za1 HO_7014001.out) (Kd.S_typed (za2 HO_7014002.out)) (by decide) hg);have n2_:=zk (blk_grown (g:=gb1) (o:=.cells #[.slice A0_0 l0_0.length c0_0,.slice A0_1 l0_1.length c0_1] 27 (0,0)) (za0 BK1.out) hg (Kd.S_ne HO_7014002.out BK1.out (by decide)));have n3_:=zk (blk_grown (g:=gb2) (o:=.cells #[.slice none 0 0,.slice none 0 0,.slice none 0 0] 31 (0,0)) (za0 BK2.out) hg (Kd.S_ne HO_7014002.out BK2.out (by decide)));have n4_:=zk (blk_grown (g:=gb13) (o:=.cells #[.slice Ao77 x7014000_2.length co77,u7014001,u7014002] 31 (0,0)) (za0 BK13.out) hg (Kd.S_ne HO_7014002.out BK13.out (by decide)));have n5_:=zk (below_own za23 hb HST.out);have n6_:=zk ho;replace HKT:=zk (keep_own (wT:=wT) (g:=gb13) HKT.out hg (Kd.S_base HO_7014002.out));clear HO_7014000;clear HO_7014001;clear BK1;clear BK2;clear BK13;clear HB;clear HO_7014002;clear HO_13;have HO_7014000:=n0_;have HO_7014001:=n1_;have BK1:=n2_;have BK2:=n3_;have BK13:=n4_;have HB:=n5_;have HO45:=n6_;clear n0_ n1_ n2_ n3_ n4_ n5_ n6_;clear ho hb hg hat;obtain ⟨Ao114,co114,eo114⟩:=Kd.S_slice HO45.out;subst eo114;have hcz115_0:w112.cell? ⟨gb13,0,none⟩=some (.slice Ao77 x7014000_2.length co77):=(blk_cell BK13.out 0).trans rfl;have hcz115_1:w112.cell? ⟨gb13,1,none⟩=some (u7014001):=(blk_cell BK13.out 1).trans rfl;have hcz115_2:w112.cell? ⟨gb13,2,none⟩=some (u7014002):=(blk_cell BK13.out 2).trans rfl;have hfz115_0:=blk_frozen BK13.out 0;have hfz115_1:=blk_frozen BK13.out 1;have hfz115_2:=blk_frozen BK13.out 2))
                   go_roundg k5
                   case measure=>have:=HK1.out;have:=HK2.out;have:=HK3.out;have:=HK4.out;have:=HK5.out;omega
                   case rel=>exact ⟨(wrap64 (x12_4+1)),(y7043),(.slice Ao114 y7043.length co114),za13,H',⟨by have:=HK1.out;have:=HK2.out;have:=HK3.out;have:=HK4.out;have:=HK5.out;omega⟩,⟨by (with_reducible repeat (first|apply Kd.S_alloc|apply Kd.S_drewN|apply Kd.S_drew));exact Kd.S_mono (zfS (Kd.S_types HO_7014000.out BK13.out (by decide))) (fun _ hk=>⟨hk.1.1.2,hk.1.2⟩)⟩,⟨by (with_reducible repeat (first|apply Kd.R_alloc|apply Kd.R_drewN|apply Kd.R_drew));exact Kd.R_mono (zfR (Kd.R_types HO_7014001.out BK13.out (by decide))) (fun _ hk=>trivial)⟩,⟨by (with_reducible repeat (first|apply Kd.S_alloc|apply Kd.S_drewN|apply Kd.S_drew));exact Kd.S_mono (zfS (Kd.S_types HO45.out BK13.out (by decide))) (fun _ hk=>⟨hk.1.1,hk.1.2⟩)⟩,⟨zpw BK1.out⟩,⟨zpw BK2.out⟩,⟨zpu BK13.out⟩,⟨za11⟩,⟨za36⟩⟩
                  ·rw [if_neg c108] at H
                   exact absurd H (by simp)
              ·rw [if_neg c88] at H
               have c88b0:=zdnl c88
               clear c88
               simp only [Option.some.injEq,Prod.mk.injEq] at H
               obtain ⟨rfl,rfl,rfl,rfl⟩:=H
               have hnb116:=NB13_1.out
               have hnc116:=NB1_13.out
               have hnb117:=NB13_2.out
               have hnc117:=NB2_13.out
               have hcz118_0:wr.cell? ⟨gb13,0,none⟩=some (.slice Ao77 x7014000_2.length co77):=(blk_cell BK13.out 0).trans rfl
               have hcz118_1:wr.cell? ⟨gb13,1,none⟩=some (u7014001):=(blk_cell BK13.out 1).trans rfl
               have hcz118_2:wr.cell? ⟨gb13,2,none⟩=some (u7014002):=(blk_cell BK13.out 2).trans rfl
               have hfz118_0:=blk_frozen BK13.out 0
               have hfz118_1:=blk_frozen BK13.out 1
               have hfz118_2:=blk_frozen BK13.out 2
               have hnb119:=NB2_1.out
               have hnc119:=NB1_2.out
               have hcz120_0:wr.cell? ⟨gb2,0,none⟩=some (.slice none 0 0):=(blk_cell BK2.out 0).trans rfl
               have hcz120_1:wr.cell? ⟨gb2,1,none⟩=some (.slice none 0 0):=(blk_cell BK2.out 1).trans rfl
               have hcz120_2:wr.cell? ⟨gb2,2,none⟩=some (.slice none 0 0):=(blk_cell BK2.out 2).trans rfl
               have hfz120_0:=blk_frozen BK2.out 0
               have hfz120_1:=blk_frozen BK2.out 1
               have hfz120_2:=blk_frozen BK2.out 2
               obtain ⟨Ao121,co121,eo121⟩:=Kd.R_slice HO_7014001.out
               subst eo121
               obtain ⟨Ao122,co122,eo122⟩:=Kd.S_slice HO_7014002.out
               subst eo122
               go_wp2
               refine bodyPost_ret (results_ct rfl _ _ gb2 31 #[.slice Ao77 x7014000_2.length co77,.slice Ao121 x7014001_3.length co121,.slice Ao122 x7014002_4.length co122] (0,0) _ rfl (zpu BK2.out) Try.underlying31 rfl (by kernel_rfl)) rfl ?_
               exact ⟨wT.heap.size,_,_,_,za15,by (with_reducible repeat (first|apply Kd.S_alloc|apply Kd.S_drewN|apply Kd.S_drew));exact Kd.S_mono (zfS (zfS (zfS (Kd.S_types (Kd.S_keep HMT.out HKT.out (fun _ hk=>hk.2)) BK2.out (by decide))))) (fun _ hk=>⟨⟨hk.1.1.1.2,fun e_=>Nat.lt_irrefl _ (Nat.lt_of_lt_of_le hk.1.1.2.2.1 (Kd.S_base HO_7014002.out _ e_.symm))⟩,hk.1.1.2.2.1⟩),by (with_reducible repeat (first|apply Kd.R_alloc|apply Kd.R_drewN|apply Kd.R_drew));exact Kd.R_mono (zfR (zfR (zfR (Kd.R_types HO_7014001.out BK2.out (by decide))))) (fun _ hk=>trivial),by (with_reducible repeat (first|apply Kd.S_alloc|apply Kd.S_drewN|apply Kd.S_drew));exact Kd.S_mono (zfS (zfS (zfS (Kd.S_types HO_7014002.out BK2.out (by decide))))) (fun _ hk=>⟨hk.1.1,hk.1.2⟩),HST.out,za11⟩
     ·rw [if_neg c16] at H
      exact absurd H (by simp)
 ·replace c3:=Bool.eq_false_iff.mpr c3
  subst c3
  rw [if_neg zff] at H
  try dsimp only at H
  simp only [Option.some.injEq,Prod.mk.injEq] at H
  obtain ⟨rfl,rfl,rfl,rfl⟩:=H
  go_enter Try.func7,Try.ntmps7
  go_wp2_with (first|((with_reducible refine gate_dst (N:=1) rfl ?_);refine zE (cs:=#[.slice A0_0 l0_0.length c0_0,.slice A0_1 l0_1.length c0_1]) (t:=27) ?_;intro gb1 hg w123 hbox hb;have BK1:=zk hbox;have GW1:=zk (zs (w:=w) hg za23);have GE1:=GW1;replace HB:=yB HB hb;clear hb hbox hg)|((with_reducible refine gate_dst (N:=2) rfl ?_);refine zE (cs:=#[.slice none 0 0,.slice none 0 0,.slice none 0 0]) (t:=31) ?_;intro gb2 hg w124 hbox hb;have BK2:=zk hbox;have GW2:=zk (zs (w:=w) hg za31);have GE2:=GW2;have NB1_2:=yn hg BK1;have NB2_1:=yp hg BK1;replace BK1:=yb BK1 hb;replace HB:=zk (below_step za31 hb);clear hb hbox hg;have hnb125:=NB1_2.out;have hnc125:=NB2_1.out;have hcz126_0:w124.cell? ⟨gb1,0,none⟩=some (.slice A0_0 l0_0.length c0_0):=(blk_cell BK1.out 0).trans rfl;have hcz126_1:w124.cell? ⟨gb1,1,none⟩=some (.slice A0_1 l0_1.length c0_1):=(blk_cell BK1.out 1).trans rfl;have hfz126_0:=blk_frozen BK1.out 0;have hfz126_1:=blk_frozen BK1.out 1)|((with_reducible refine gate_callee (f:=26) rfl ?_);refine zg (some 16) Try.func26 #[.agg #[.slice A0_0 l0_0.length c0_0,.slice A0_1 l0_1.length c0_1]] rfl za4 ?_;(with_reducible refine (spec_IsValidDfa.calls k _ _ l0_0 _ _ l0_1 false _ ?side1 ?side2 ?side3 ?side4 A2.out).mono ?_);(case side1=>repeat (first|exact (Kd.C_below HR0_0.out HB.out)|(with_reducible refine Kd.C_alloc ?_ _)|(with_reducible refine Kd.C_drewN ?_ _)|(with_reducible refine Kd.C_drew ?_)));(case side2=>exact HC0_0.out);(case side3=>repeat (first|exact (Kd.C_below HR0_1.out HB.out)|(with_reducible refine Kd.C_alloc ?_ _)|(with_reducible refine Kd.C_drewN ?_ _)|(with_reducible refine Kd.C_drew ?_)));(case side4=>exact HC0_1.out);rintro e w127 ⟨rfl,hb⟩;refine ⟨_,rfl,?_⟩;replace BK1:=yb BK1 hb;replace BK2:=yb BK2 hb;replace HB:=zk (below_step za24 hb);(try clear hb);have hcz128_0:w127.cell? ⟨gb2,0,none⟩=some (.slice none 0 0):=(blk_cell BK2.out 0).trans rfl;have hcz128_1:w127.cell? ⟨gb2,1,none⟩=some (.slice none 0 0):=(blk_cell BK2.out 1).trans rfl;have hcz128_2:w127.cell? ⟨gb2,2,none⟩=some (.slice none 0 0):=(blk_cell BK2.out 2).trans rfl;have hfz128_0:=blk_frozen BK2.out 0;have hfz128_1:=blk_frozen BK2.out 1;have hfz128_2:=blk_frozen BK2.out 2))
  refine bodyPost_ret (results_ct rfl _ _ gb2 31 #[.slice none 0 0,.slice none 0 0,.slice none 0 0] (0,0) _ rfl (zpu BK2.out) Try.underlying31 rfl (by kernel_rfl)) rfl ?_
  exact ⟨w.heap.size,_,_,_,za15,za37,za53,za37,Nat.le_refl _,za24⟩
theorem spec_BuildMonoid.calls (k:Nat) (A0_0:Option Addr) (c0_0:Nat) (l0_0:List Bool) (A0_1:Option Addr) (c0_1:Nat) (l0_1:List (List Int)) (r1:List (List Int)) (r2:List Int) (r3:List (List Int)) (r4:Bool) (w:World) (hr0_0:Kd.C Kd.bool w A0_0 l0_0.length l0_0) (hc0_0:l0_0.length≤c0_0) (hr0_1:Kd.C (Kd.slice 3 (Kd.int .i64)) w A0_1 l0_1.length l0_1) (hc0_1:l0_1.length≤c0_1) (h:spec_BuildMonoid.f k l0_0 l0_1=some (r1,r2,r3,r4)) :
  Calls Try.prog 7 #[.agg #[.slice A0_0 l0_0.length c0_0,.slice A0_1 l0_1.length c0_1]] w fun e w'=>∃ v0_ v1_ v2_:Value,e = .returned (.tuple #[.agg #[v0_,v1_,v2_],.bool r4])∧Kd.S (Kd.slice 3 (Kd.int .i64)) 29 w' w.heap.size (fun k_=>some k_ ≠ (v1_:Value).ownBlock∧some k_ ≠ (v2_:Value).ownBlock) v0_ r1∧Kd.R (Kd.int .i64) 3 w' w.heap.size (fun _=>True) v1_ r2∧Kd.S (Kd.slice 3 (Kd.int .i64)) 29 w' w.heap.size (fun k_=>some k_ ≠ (v0_:Value).ownBlock∧some k_ ≠ (v1_:Value).ownBlock) v2_ r3∧Below w.heap.size w w' :=
 (spec_BuildMonoid.apart k A0_0 c0_0 l0_0 A0_1 c0_1 l0_1 r1 r2 r3 r4 w hr0_0 hc0_0 hr0_1 hc0_1 h).mono fun _ _ ⟨_,v0_,v1_,v2_,he,h0,h1,h2,hT,hb⟩=>⟨v0_,v1_,v2_,he,Kd.S_mono h0 (fun _ hk=>hk.1),h1,Kd.S_lower h2 hT,hb⟩
def spec_l13Numbers.l0:Nat→List Int→Int→Int→Option (Bool)
 | 0,_,_,_=>none
 | k+1,x0,x1,x5=>if x5 < (x0.length:Int) then (if 0≤x5 then ((spec_l1In.f (rd x0 x5) 0 (wrap64 (x1 - 1))).bind fun t61002=>(if t61002=true then (spec_l13Numbers.l0 k x0 x1 (wrap64 (x5+1))) else (some false))) else (none)) else (some true)
def spec_l13Numbers.f (k:Nat) (l0:List Int) (a1:Int):Option (Bool):=spec_l13Numbers.l0 k l0 a1 0
theorem spec_l13Numbers.calls (k:Nat) (A0:Option Addr) (c0:Nat) (l0:List Int) (a1:Int) (r:Bool) (w:World) (hr0:Kd.C (Kd.int .i64) w A0 l0.length l0) (hc0:l0.length≤c0) (h:spec_l13Numbers.f k l0 a1=some r) :
   Calls Try.prog 61 #[.slice A0 l0.length c0,.int .i64 a1] w fun e w'=>e = .returned (.bool r)∧Drawn0 w w':=by
 have HR0:=zk hr0
 have HC0:=zk hc0
 clear hr0 hc0
 have H:=h
 unfold spec_l13Numbers.f at H
 clear h
 have H':=zk H
 clear H
 go_enter Try.func61,Try.ntmps61
 go_wp2
 try simp only [Act.put,zt,zv,zu]
 go_loopg [5] k (fun kq v5 w'=>∃ (x5_1:Int),v5 = .int .i64 x5_1∧Aside0 (spec_l13Numbers.l0 kq l0 a1 x5_1=some r)∧Aside0 (kq≤k)∧Drawn0 w w')
 case atStart=>exact ⟨(0),za13,H',⟨Nat.le_refl _⟩,za25⟩
 case round =>
  clear H'
  obtain ⟨x5_1,rfl,HA,HK1,⟨m1,rfl⟩⟩:=hrel
  cases gk with
  | zero=>exact absurd HA.out (by simp [spec_l13Numbers.l0])
  | succ k1 =>
   have H:=HA.out
   clear HA
   simp only [spec_l13Numbers.l0] at H
   by_cases c3:x5_1 < (l0.length:Int)
   rw [if_pos c3] at H
   have c3b0:=zdl c3
   clear c3
   by_cases c4:0≤x5_1
   rw [if_pos c4] at H
   have c4b0:=zdle c4
   clear c4
   obtain ⟨t2,A5,H⟩:=zO H
   try dsimp only at H
   by_cases c6:t2=true
   subst c6
   rw [if_pos rfl] at H
   try dsimp only at H
   have H':=zk H
   clear H
   have fin0_:=zk trivial
   rotate_left
   replace c6:=Bool.eq_false_iff.mpr c6
   subst c6
   rw [if_neg zff] at H
   try dsimp only at H
   obtain rfl:=zi H
   have fin1_:=zk trivial
   rotate_left
   · rw [if_neg c4] at H
     exact absurd H (by simp)
   · rw [if_neg c3] at H
     have c3b0:=zdnl c3
     clear c3
     obtain rfl:=zi H
     go_wp2
     go_ret
     exact ⟨za13,za25⟩
   all_goals
    have p61001:0≤(x5_1:Int):=of_decide_eq_true za7
    have q61001:x5_1 < (l0.length:Int):=of_decide_eq_true za7
    obtain ⟨ad61001,e61001,hx61001_0⟩:=Kd.at_int HR0.out x5_1 p61001 q61001
    cases e61001
    replace p61001:=eq_true p61001
    replace q61001:=eq_true q61001
    go_wp2_with (((with_reducible refine gate_callee (f:=35) rfl ?_);refine zg (some 18) Try.func35 #[.int .i64 (rd l0 x5_1),.int .i64 0,.int .i64 (wrap64 (a1 - 1))] rfl za4 ?_;(with_reducible refine (spec_l1In.calls (rd l0 x5_1) 0 (wrap64 (a1 - 1)) _ _ A5.out).mono ?_);rintro e w' ⟨rfl,⟨nd,rfl⟩⟩;refine ⟨_,rfl,?_⟩))
    first
    | (
      clear fin0_
      go_roundg k1
      case measure=>have:=HK1.out;omega
      case rel=>exact ⟨(wrap64 (x5_1+1)),za13,H',⟨za61⟩,za25⟩)
    | (
      clear fin1_
      go_ret
      exact ⟨za13,za25⟩)
mutual
def spec_l13Good.j0:Nat→Int→Bool→List (List Int)→List Int→List (List Int)→Option (Bool)
 | 0,_,_,_,_,_=>none
 | k+1,x3,x29,x43002000,x43002001,x43002002=>if x29=true then (some false) else (spec_l13Good.l0 k x3 0 x43002000 x43002001 x43002002)
def spec_l13Good.l0:Nat→Int→Int→List (List Int)→List Int→List (List Int)→Option (Bool)
 | 0,_,_,_,_,_=>none
 | k+1,x3,x4,x43002000,x43002001,x43002002=>if x4 < x3 then (if 0≤x4 then (if x4 < (x43002002.length:Int) then (if ((rd_L3 x43002002 x4).length:Int)=x3 then ((spec_l13Numbers.f k (rd_L3 x43002002 x4) x3).bind fun t43005=>(if t43005=true then (spec_l13Good.l0 k x3 (wrap64 (x4+1)) x43002000 x43002001 x43002002) else (some false))) else (some false)) else (none)) else (none)) else (some true)
end
def spec_l13Good.f (k:Nat) (l0_0:List (List Int)) (l0_1:List Int) (l0_2:List (List Int)):Option (Bool):=if (l0_0.length:Int)=0 then (spec_l13Good.j0 k (l0_0.length:Int) true l0_0 l0_1 l0_2) else (if (l0_1.length:Int)=3 then (if (l0_2.length:Int)=(l0_0.length:Int) then ((spec_l13Numbers.f k l0_1 (l0_0.length:Int)).bind fun t43002=>(spec_l13Good.j0 k (l0_0.length:Int) (!t43002) l0_0 l0_1 l0_2)) else (spec_l13Good.j0 k (l0_0.length:Int) true l0_0 l0_1 l0_2)) else (spec_l13Good.j0 k (l0_0.length:Int) true l0_0 l0_1 l0_2))
theorem spec_l13Good.calls (k:Nat) (A0_0:Option Addr) (c0_0:Nat) (l0_0:List (List Int)) (A0_1:Option Addr) (c0_1:Nat) (l0_1:List Int) (A0_2:Option Addr) (c0_2:Nat) (l0_2:List (List Int)) (r:Bool) (w:World) (hr0_0:Kd.C (Kd.slice 3 (Kd.int .i64)) w A0_0 l0_0.length l0_0) (hc0_0:l0_0.length≤c0_0) (hr0_1:Kd.C (Kd.int .i64) w A0_1 l0_1.length l0_1) (hc0_1:l0_1.length≤c0_1) (hr0_2:Kd.C (Kd.slice 3 (Kd.int .i64)) w A0_2 l0_2.length l0_2) (hc0_2:l0_2.length≤c0_2) (h:spec_l13Good.f k l0_0 l0_1 l0_2=some r) :
   Calls Try.prog 43 #[.agg #[.slice A0_0 l0_0.length c0_0,.slice A0_1 l0_1.length c0_1,.slice A0_2 l0_2.length c0_2]] w fun e w'=>e = .returned (.bool r)∧Below w.heap.size w w':=by
 have hu31:=Try.underlying31
 have HR0_0:=zk hr0_0
 have HC0_0:=zk hc0_0
 clear hr0_0 hc0_0
 have HR0_1:=zk hr0_1
 have HC0_1:=zk hc0_1
 clear hr0_1 hc0_1
 have HR0_2:=zk hr0_2
 have HC0_2:=zk hc0_2
 clear hr0_2 hc0_2
 have HB:=zk (Below.refl w.heap.size w)
 have H:=h
 unfold spec_l13Good.f at H
 clear h
 have HC2:=zk H
 clear H
 go_enter Try.func43,Try.ntmps43
 go_upto_region 2 with (first|((with_reducible refine gate_dst (N:=1) rfl ?_);(try (refine gate_guard (by rfl) ?_;dsimp only));refine zE (cs:=#[.slice A0_0 l0_0.length c0_0,.slice A0_1 l0_1.length c0_1,.slice A0_2 l0_2.length c0_2]) (t:=31) ?_;intro gb1 hg w3 hbox hb;have BK1:=zk hbox;have GW1:=zk (zs (w:=w) hg za3);have GE1:=GW1;replace HB:=yB HB hb;clear hb hbox hg;obtain ⟨hcz4_0,hcz4_1,hcz4_2,hfz4_0,hfz4_1,hfz4_2⟩:=blk3 BK1.out))
 (try simp only [Act.put,zt,zu,zv])
 go_cut [29] (fun v29 wc=>∃ (kq:Nat) (x29_1:Bool),v29 = .bool x29_1∧Aside0 (spec_l13Good.j0 kq (l0_0.length:Int) x29_1 l0_0 l0_1 l0_2=some r)∧Aside0 (kq≤k)∧Aside0 (wc.heap[gb1]? = some (.cells #[(.slice A0_0 l0_0.length c0_0),(.slice A0_1 l0_1.length c0_1),(.slice A0_2 l0_2.length c0_2)] 31 (0,0)))∧Aside0 (Below w.heap.size w wc))
 case first =>
  have H:=HC2.out
  clear HC2
  by_cases c5:(l0_0.length:Int)=0
  rw [if_pos c5] at H
  have c5b0:=zbt c5
  have c5b1:=zqn c5
  clear c5
  (first|rw [c5b0]|(simp only [i64_w,i32_w];rw [c5b0])|skip)
  have H':=zk H
  clear H
  have fin1_:=zk trivial
  rotate_left
  rw [if_neg c5] at H
  have c5b0:=zbn c5
  have c5b1:=zqt c5
  have c5b2:¬ (l0_0 = []):=fun h_=>c5 (by rw [h_];rfl)
  (first|rw [c5b0]|(simp only [i64_w,i32_w];rw [c5b0])|skip)
  by_cases c6:(l0_1.length:Int)=3
  rw [if_pos c6] at H
  have c6b0:=zbt c6
  have c6b1:=zqn c6
  clear c6
  by_cases c7:(l0_2.length:Int)=(l0_0.length:Int)
  rw [if_pos c7] at H
  have c7b0:=zbt c7
  have c7b1:=zqn c7
  have c7b2:(l0_2.length == l0_0.length)=true:=by first|simpa using c7|(simp at c7 ⊢;omega)
  clear c7
  obtain ⟨t2,A8,H⟩:=zO H
  try dsimp only at H
  have H':=zk H
  clear H
  obtain ⟨hcz9_0,hcz9_1,hcz9_2,hfz9_0,hfz9_1,hfz9_2⟩:=blk3 BK1.out
  have fin0_:=zk trivial
  rotate_left
  rw [if_neg c7] at H
  have c7b0:=zbn c7
  have c7b1:=zqt c7
  have c7b2:(l0_2.length == l0_0.length)=false:=by first|simpa using c7|(simp at c7 ⊢;omega)
  have H':=zk H
  clear H
  obtain ⟨hcz10_0,hcz10_1,hcz10_2,hfz10_0,hfz10_1,hfz10_2⟩:=blk3 BK1.out
  have fin1_:=zk trivial
  rotate_left
  rw [if_neg c6] at H
  have c6b0:=zbn c6
  have c6b1:=zqt c6
  have H':=zk H
  clear H
  obtain ⟨hcz11_0,hcz11_1,hcz11_2,hfz11_0,hfz11_1,hfz11_2⟩:=blk3 BK1.out
  have fin1_:=zk trivial
  rotate_left
  all_goals
   go_wp2_with ((go_at_call 61;(with_reducible refine (spec_l13Numbers.calls k _ _ l0_1 (l0_0.length:Int) t2 _ ?side1 ?side2 A8.out).mono ?_);(case side1=>repeat (first|exact (Kd.C_below HR0_1.out HB.out)|(with_reducible refine Kd.C_alloc ?_ _)|(with_reducible refine Kd.C_drewN ?_ _)|(with_reducible refine Kd.C_drew ?_)));(case side2=>exact HC0_1.out);rintro e w' ⟨rfl,⟨nd,rfl⟩⟩))
   first
   | (
     clear fin0_
     go_meet
     case rel=>exact ⟨_,(!t2),za13,H',⟨za62⟩,⟨za0 BK1.out⟩,⟨za3⟩⟩)
   | (
     clear fin1_
     go_meet
     case rel=>exact ⟨_,(true),za13,H',⟨za62⟩,⟨za0 BK1.out⟩,⟨za3⟩⟩)
 case rest =>
  clear HC2
  try clear hcz4_0
  try clear hcz4_1
  try clear hcz4_2
  try clear hfz4_0
  try clear hfz4_1
  try clear hfz4_2
  obtain ⟨kq,x29_1,rfl,HA,HJ1,BK1,HB⟩:=hcut
  cases kq with
  | zero=>exact absurd HA.out (by simp [spec_l13Good.j0])
  | succ kj1 =>
   have H:=HA.out
   clear HA
   simp only [spec_l13Good.j0] at H
   by_cases c12:x29_1=true
   ·subst c12
    rw [if_pos rfl] at H
    try dsimp only at H
    obtain rfl:=zi H
    go_wp2
    go_ret
    exact ⟨za15,za3⟩
   ·replace c12:=Bool.eq_false_iff.mpr c12
    subst c12
    rw [if_neg zff] at H
    try dsimp only at H
    have H':=zk H
    clear H
    go_wp2
    try simp only [Act.put,zt,zv,zu]
    go_loopg [4] kj1 (fun kq v4 w'=>∃ (x4_2:Int),v4 = .int .i64 x4_2∧Aside0 (spec_l13Good.l0 kq (l0_0.length:Int) x4_2 l0_0 l0_1 l0_2=some r)∧Aside0 (kq≤kj1)∧Aside0 (w'.heap[gb1]? = some (.cells #[(.slice A0_0 l0_0.length c0_0),(.slice A0_1 l0_1.length c0_1),(.slice A0_2 l0_2.length c0_2)] 31 (0,0)))∧Aside0 (Below w.heap.size w w'))
    case atStart=>exact ⟨(0),za13,H',⟨Nat.le_refl _⟩,⟨za0 BK1.out⟩,⟨za3⟩⟩
    case round =>
     clear H'
     try clear c12
     try clear hcz4_0
     try clear hcz4_1
     try clear hcz4_2
     try clear hfz4_0
     try clear hfz4_1
     try clear hfz4_2
     obtain ⟨x4_2,rfl,HA,HK2,BK1,HB⟩:=hrel
     cases gk with
     | zero=>exact absurd HA.out (by simp [spec_l13Good.l0])
     | succ k2 =>
      have H:=HA.out
      clear HA
      simp only [spec_l13Good.l0] at H
      by_cases c13:x4_2 < (l0_0.length:Int)
      rw [if_pos c13] at H
      have c13b0:=zdl c13
      clear c13
      by_cases c14:0≤x4_2
      rw [if_pos c14] at H
      have c14b0:=zdle c14
      clear c14
      by_cases c15:x4_2 < (l0_2.length:Int)
      rw [if_pos c15] at H
      have c15b0:=zdl c15
      clear c15
      by_cases c16:((rd_L3 l0_2 x4_2).length:Int)=(l0_0.length:Int)
      rw [if_pos c16] at H
      have c16b0:=zbt c16
      have c16b1:=zqn c16
      have c16b2:((rd_L3 l0_2 x4_2).length == l0_0.length)=true:=by first|simpa using c16|(simp at c16 ⊢;omega)
      clear c16
      obtain ⟨t5,A17,H⟩:=zO H
      try dsimp only at H
      by_cases c18:t5=true
      subst c18
      rw [if_pos rfl] at H
      try dsimp only at H
      have H':=zk H
      clear H
      have tag0_:=zk trivial
      have fin0_:=zk trivial
      rotate_left
      replace c18:=Bool.eq_false_iff.mpr c18
      subst c18
      rw [if_neg zff] at H
      try dsimp only at H
      obtain rfl:=zi H
      have tag0_:=zk trivial
      have fin1_:=zk trivial
      rotate_left
      rw [if_neg c16] at H
      have c16b0:=zbn c16
      have c16b1:=zqt c16
      have c16b2:((rd_L3 l0_2 x4_2).length == l0_0.length)=false:=by first|simpa using c16|(simp at c16 ⊢;omega)
      obtain rfl:=zi H
      obtain ⟨hcz21_0,hcz21_1,hcz21_2,hfz21_0,hfz21_1,hfz21_2⟩:=blk3 BK1.out
      have p43003:0≤(x4_2:Int):=of_decide_eq_true za7
      have q43003:x4_2 < (l0_2.length:Int):=of_decide_eq_true za7
      obtain ⟨ad43003,A43003_0,c43003_0,e43003,hx43003_0,hl43003_0,hi43003_0⟩:=at_L3 HR0_2.out x4_2 p43003 q43003
      cases e43003
      replace hx43003_0:=zx HB.out hx43003_0
      have HR43003_0:=zk hi43003_0
      have HC43003_0:=zk hl43003_0
      clear hi43003_0 hl43003_0
      replace p43003:=eq_true p43003
      replace q43003:=eq_true q43003
      have tag1_:=zk trivial
      rotate_left
      · rw [if_neg c15] at H
        exact absurd H (by simp)
      · rw [if_neg c14] at H
        exact absurd H (by simp)
      rw [if_neg c13] at H
      have c13b0:=zdnl c13
      clear c13
      obtain rfl:=zi H
      have tag1_:=zk trivial
      rotate_left
      all_goals first
       | (
         clear tag0_
         obtain ⟨hcz19_0,hcz19_1,hcz19_2,hfz19_0,hfz19_1,hfz19_2⟩:=blk3 BK1.out
         have p43003:0≤(x4_2:Int):=of_decide_eq_true za7
         have q43003:x4_2 < (l0_2.length:Int):=of_decide_eq_true za7
         obtain ⟨ad43003,A43003_0,c43003_0,e43003,hx43003_0,hl43003_0,hi43003_0⟩:=at_L3 HR0_2.out x4_2 p43003 q43003
         cases e43003
         replace hx43003_0:=zx HB.out hx43003_0
         have HR43003_0:=zk hi43003_0
         have HC43003_0:=zk hl43003_0
         clear hi43003_0 hl43003_0
         replace p43003:=eq_true p43003
         replace q43003:=eq_true q43003
         have p43004:0≤(x4_2:Int):=of_decide_eq_true za7
         have q43004:x4_2 < (l0_2.length:Int):=of_decide_eq_true za7
         obtain ⟨ad43004,A43004_0,c43004_0,e43004,hx43004_0,hl43004_0,hi43004_0⟩:=at_L3 HR0_2.out x4_2 p43004 q43004
         obtain rfl:ad43003=ad43004:=(by injection e43004)
         replace hx43004_0:=zx HB.out hx43004_0
         have HR43004_0:=zk hi43004_0
         have HC43004_0:=zk hl43004_0
         clear hi43004_0 hl43004_0
         replace p43004:=eq_true p43004
         replace q43004:=eq_true q43004
         have ea_:=zi (hx43003_0.symm.trans hx43004_0)
         injection ea_ with ea_ en_ ec_
         subst ea_
         subst ec_
         clear en_
         go_wp2_with ((go_at_call 61;(with_reducible refine (spec_l13Numbers.calls k2 _ _ (rd_L3 l0_2 x4_2) (l0_0.length:Int) _ _ ?side1 ?side2 A17.out).mono ?_);(case side1=>repeat (first|exact (Kd.C_below HR43004_0.out HB.out)|(with_reducible refine Kd.C_alloc ?_ _)|(with_reducible refine Kd.C_drewN ?_ _)|(with_reducible refine Kd.C_drew ?_)));(case side2=>exact HC43004_0.out);rintro e w' ⟨rfl,⟨nd,rfl⟩⟩))
         first
         | (
          clear fin0_
          go_roundg k2
          case measure=>have:=HJ1.out;have:=HK2.out;omega
          case rel=>exact ⟨(wrap64 (x4_2+1)),za13,H',⟨by have:=HJ1.out;have:=HK2.out;omega⟩,⟨za0 BK1.out⟩,⟨za3⟩⟩)
         | (
          clear fin1_
          go_ret
          exact ⟨za15,za3⟩))
       | (
         clear tag1_
         go_wp2
         go_ret
         exact ⟨za15,za3⟩)
mutual
def spec_WordOfMap.l0:Nat→Int→List Int→List ByteArray→Int→List (List Int)→List Int→List (List Int)→Option (ByteArray × Bool)
 | 0,_,_,_,_,_,_,_=>none
 | k+1,x1,x6,x7,x8,x14002000,x14002001,x14002002=>if x8 < (x6.length:Int) then (if 0≤x8 then (if (rd x6 x8)=x1 then (if x8 < (x7.length:Int) then (some (rdOf ByteArray.empty x7 x8,true)) else (none)) else (spec_WordOfMap.l1 k x1 x6 x7 x8 0 x14002000 x14002001 x14002002)) else (none)) else (some ((⟨#[]⟩:ByteArray),false))
def spec_WordOfMap.l1:Nat→Int→List Int→List ByteArray→Int→Int→List (List Int)→List Int→List (List Int)→Option (ByteArray × Bool)
 | 0,_,_,_,_,_,_,_,_=>none
 | k+1,x1,x6,x7,x8,x9,x14002000,x14002001,x14002002=>if x9 < 3 then (if 0≤x8 then (if x8 < (x6.length:Int) then (if 0≤(rd x6 x8) then (if (rd x6 x8) < (x14002002.length:Int) then (if 0≤x9 then (if x9 < (x14002001.length:Int) then (if 0≤(rd x14002001 x9) then (if (rd x14002001 x9) < ((rd_L3 x14002002 (rd x6 x8)).length:Int) then ((spec_l5Find.f k x6 (rd (rd_L3 x14002002 (rd x6 x8)) (rd x14002001 x9))).bind fun t14015=>(if t14015 < 0 then (if x6.length < 17592186044416 then (if x8 < (x7.length:Int) then (if x9≤(wrap64 (x9+1)) then (if (wrap64 (x9+1))≤3 then (if (rdOf ByteArray.empty x7 x8).size+((⟨#[97,98,99]⟩:ByteArray).extract (x9:Int).toNat ((wrap64 (x9+1)):Int).toNat).size≤9223372036854775807 then (if x7.length < 8796093022208 then (spec_WordOfMap.l1 k x1 (x6 ++ [rd (rd_L3 x14002002 (rd x6 x8)) (rd x14002001 x9)]) (x7 ++ [(rdOf ByteArray.empty x7 x8) ++ ((⟨#[97,98,99]⟩:ByteArray).extract (x9:Int).toNat ((wrap64 (x9+1)):Int).toNat)]) x8 (wrap64 (x9+1)) x14002000 x14002001 x14002002) else (none)) else (none)) else (none)) else (none)) else (none)) else (none)) else (spec_WordOfMap.l1 k x1 x6 x7 x8 (wrap64 (x9+1)) x14002000 x14002001 x14002002))) else (none)) else (none)) else (none)) else (none)) else (none)) else (none)) else (none)) else (none)) else (spec_WordOfMap.l0 k x1 x6 x7 (wrap64 (x8+1)) x14002000 x14002001 x14002002)
end
def spec_WordOfMap.f (k:Nat) (l0_0:List (List Int)) (l0_1:List Int) (l0_2:List (List Int)) (a1:Int):Option (ByteArray × Bool):=(spec_l13Good.f k l0_0 l0_1 l0_2).bind fun t14002=>(if t14002=true then (spec_WordOfMap.l0 k a1 (([0]:List Int)) (([⟨#[]⟩]:List ByteArray)) 0 l0_0 l0_1 l0_2) else (some ((⟨#[]⟩:ByteArray),false)))
def spec_WordOfMap.T13:Bool × List (List Nat × List Nat):=(true,[([],[]),([0],[0]),([],[]),([],[]),([2,3],[2,3]),([4],[4]),([1,5],[1,5]),([6],[6]),([],[]),([8],[8]),([],[]),([9,10],[9,10]),([11],[11]),([7,12],[7,12]),([13],[13]),([14,0,1,2,3,4,5,6,7,8,9,10,11,12,13,14],[14])])
def spec_WordOfMap.B13:List Nat:=[0,1,0,0,12,28,63,127,0,256,0,1792,3840,8191,16383,32767]
theorem spec_WordOfMap.tab13:rtab .any (opsOf Try.f14 13)=spec_WordOfMap.T13:=by kernel_rfl
theorem spec_WordOfMap.bits13:waitsOk spec_WordOfMap.T13.2 spec_WordOfMap.B13=true:=by kernel_rfl
def spec_WordOfMap.T16:Bool × List (List Nat × List Nat):=(true,[([],[]),([],[]),([],[]),([1,2],[1,2]),([3],[3]),([],[]),([],[]),([6],[6]),([5,7],[5,7]),([4,8],[4,8]),([9],[9]),([0,10],[0,10]),([11,11,0,1,2,3,4,5,6,7,8,9,10,11],[0,1,11])])
def spec_WordOfMap.B16:List Nat:=[0,0,0,6,14,0,0,64,224,510,1022,2047,4095]
theorem spec_WordOfMap.tab16:rtab .any (opsOf Try.f14 16)=spec_WordOfMap.T16:=by kernel_rfl
theorem spec_WordOfMap.bits16:waitsOk spec_WordOfMap.T16.2 spec_WordOfMap.B16=true:=by kernel_rfl
theorem spec_WordOfMap.calls (k:Nat) (A0_0:Option Addr) (c0_0:Nat) (l0_0:List (List Int)) (A0_1:Option Addr) (c0_1:Nat) (l0_1:List Int) (A0_2:Option Addr) (c0_2:Nat) (l0_2:List (List Int)) (a1:Int) (r1:ByteArray) (r2:Bool) (w:World) (hr0_0:Kd.C (Kd.slice 3 (Kd.int .i64)) w A0_0 l0_0.length l0_0) (hc0_0:l0_0.length≤c0_0) (hr0_1:Kd.C (Kd.int .i64) w A0_1 l0_1.length l0_1) (hc0_1:l0_1.length≤c0_1) (hr0_2:Kd.C (Kd.slice 3 (Kd.int .i64)) w A0_2 l0_2.length l0_2) (hc0_2:l0_2.length≤c0_2) (h:spec_WordOfMap.f k l0_0 l0_1 l0_2 a1=some (r1,r2)) :
  Calls Try.prog 14 #[.agg #[.slice A0_0 l0_0.length c0_0,.slice A0_1 l0_1.length c0_1,.slice A0_2 l0_2.length c0_2],.int .i64 a1] w fun e w'=>e = .returned (.tuple #[.string r1,.bool r2])∧Below w.heap.size w w':=by
 have hu31:=Try.underlying31
 have HR0_0:=zk hr0_0
 have HC0_0:=zk hc0_0
 clear hr0_0 hc0_0
 have HR0_1:=zk hr0_1
 have HC0_1:=zk hc0_1
 clear hr0_1 hc0_1
 have HR0_2:=zk hr0_2
 have HC0_2:=zk hc0_2
 clear hr0_2 hc0_2
 have HB:=zk (Below.refl w.heap.size w)
 have H:=h
 unfold spec_WordOfMap.f at H
 clear h
 obtain ⟨t2,A3,H⟩:=zO H
 try dsimp only at H
 by_cases c4:t2=true
 ·subst c4
  rw [if_pos rfl] at H
  try dsimp only at H
  obtain ⟨y14003,hy14003⟩:∃ y_:List Int,y_=(([0]:List Int)):=⟨_,rfl⟩
  replace H:(spec_WordOfMap.l0 k a1 y14003 (([⟨#[]⟩]:List ByteArray)) 0 l0_0 l0_1 l0_2)=some (r1,r2):=by first|(rw [hy14003];with_reducible exact H)|(have H2_:=(Option.bind_some _ _).symm.trans H;rw [hy14003];with_reducible exact H2_)|(have H2_:=(Option.bind_some _ _).symm.trans H;with_reducible exact H2_)|with_reducible exact H|(rw [hy14003];exact H)|exact H
  have Ny3:=zk hy14003
  clear hy14003
  obtain ⟨y14006,hy14006⟩:∃ y_:List ByteArray,y_=(([⟨#[]⟩]:List ByteArray)):=⟨_,rfl⟩
  replace H:(spec_WordOfMap.l0 k a1 y14003 y14006 0 l0_0 l0_1 l0_2)=some (r1,r2):=by first|(rw [hy14006];with_reducible exact H)|(have H2_:=(Option.bind_some _ _).symm.trans H;rw [hy14006];with_reducible exact H2_)|(have H2_:=(Option.bind_some _ _).symm.trans H;with_reducible exact H2_)|with_reducible exact H|(rw [hy14006];exact H)|exact H
  have Ny6:=zk hy14006
  clear hy14006
  have H':=zk H
  clear H
  go_enter Try.func14,Try.ntmps14
  go_wp2_with (first|((with_reducible refine gate_dst (N:=2) rfl ?_);refine zE (cs:=#[.slice A0_0 l0_0.length c0_0,.slice A0_1 l0_1.length c0_1,.slice A0_2 l0_2.length c0_2]) (t:=31) ?_;intro gb1 hg w5 hbox hb;have BK1:=zk hbox;have GW1:=zk (zs (w:=w) hg za3);have GE1:=GW1;replace HB:=yB HB hb;clear hb hbox hg;obtain ⟨hcz6_0,hcz6_1,hcz6_2,hfz6_0,hfz6_1,hfz6_2⟩:=blk3 BK1.out)|((with_reducible refine gate_callee (f:=43) rfl ?_);refine zg (some 12) Try.func43 #[.agg #[.slice A0_0 l0_0.length c0_0,.slice A0_1 l0_1.length c0_1,.slice A0_2 l0_2.length c0_2]] rfl za4 ?_;(with_reducible refine (spec_l13Good.calls k _ _ l0_0 _ _ l0_1 _ _ l0_2 _ _ ?side1 ?side2 ?side3 ?side4 ?side5 ?side6 A3.out).mono ?_);(case side1=>repeat (first|exact (Kd.C_below HR0_0.out HB.out)|(with_reducible refine Kd.C_alloc ?_ _)|(with_reducible refine Kd.C_drewN ?_ _)|(with_reducible refine Kd.C_drew ?_)));(case side2=>exact HC0_0.out);(case side3=>repeat (first|exact (Kd.C_below HR0_1.out HB.out)|(with_reducible refine Kd.C_alloc ?_ _)|(with_reducible refine Kd.C_drewN ?_ _)|(with_reducible refine Kd.C_drew ?_)));(case side4=>exact HC0_1.out);(case side5=>repeat (first|exact (Kd.C_below HR0_2.out HB.out)|(with_reducible refine Kd.C_alloc ?_ _)|(with_reducible refine Kd.C_drewN ?_ _)|(with_reducible refine Kd.C_drew ?_)));(case side6=>exact HC0_2.out);rintro e w7 ⟨rfl,hb⟩;refine ⟨_,rfl,?_⟩;replace BK1:=yb BK1 hb;replace HB:=yB HB hb;(try clear hb))|((with_reducible refine gate_dst (N:=14) rfl ?_);refine Kd.R_lit (Kd.int .i64) _ 3 ?hg (N:=14) ?hd (xs:=([0]:List Int)) (inner:=[.int .i64 0]) (ok:=fun _=>True) (okp:=fun _=>True) ?hr ?hp (fun _ hk=>hk) trivial (Below.refl _ _) (Nat.le_refl _) (by simp) ?_;(case hd=>rfl);(case hg=>rfl);(case hr=>first|(go_simp;done)|(go_simp;rfl));(case hp=>exact (Reps.one (show Kd.M (Kd.int .i64) _ _ _ 0 [.int .i64 0] from rfl) (Reps.none _ _)));intro v4 w8 ho9 hb hg_ hnew_;clear hg_ hnew_;(first|rw [← Ny3.out] at ho9|(simp only [Int.reduceToNat] at ho9;rw [← Ny3.out] at ho9));have HO5:=zk (Kd.R_lower ho9 (below_size za3));replace BK1:=yb BK1 hb;replace HB:=yB HB hb;clear hb ho9)|((with_reducible refine gate_dst (N:=15) rfl ?_);refine Kd.R_lit Kd.string _ 9 ?hg (N:=15) ?hd (xs:=([⟨#[]⟩]:List ByteArray)) (inner:=[.string ⟨#[]⟩]) (ok:=fun _=>True) (okp:=fun _=>True) ?hr ?hp (fun _ hk=>hk) trivial (Below.refl _ _) (Nat.le_refl _) (by simp) ?_;(case hd=>rfl);(case hg=>rfl);(case hr=>first|(go_simp;done)|(go_simp;rfl));(case hp=>exact (Reps.one (show Kd.M Kd.string _ _ _ (⟨#[]⟩:ByteArray) [.string ⟨#[]⟩] from rfl) (Reps.none _ _)));intro v14007 w10 ho11 hb hg_ hnew_;clear hg_ hnew_;(first|rw [← Ny6.out] at ho11|(simp only [Int.reduceToNat] at ho11;rw [← Ny6.out] at ho11));replace HO5:=zk (Kd.R_below (za1 HO5.out) hb);have HO8:=zk (Kd.R_lower ho11 (below_size za3));replace BK1:=yb BK1 hb;replace HB:=yB HB hb;clear hb ho11))
  try simp only [Act.put,zt,zv,zu]
  go_loopg [6,7,8] k (fun kq v6 v7 v8 w'=>∃ (x6_1:List Int) (x7_1:List ByteArray) (x8_1:Int),v8 = .int .i64 x8_1∧Aside0 (spec_WordOfMap.l0 kq a1 x6_1 x7_1 x8_1 l0_0 l0_1 l0_2=some (r1,r2))∧Aside0 (kq≤k)∧Aside0 (Kd.R (Kd.int .i64) 3 w' w.heap.size (fun _=>True) v6 x6_1)∧Aside0 (Kd.R Kd.string 9 w' w.heap.size (fun _=>True) v7 x7_1)∧Aside0 (w'.heap[gb1]? = some (.cells #[(.slice A0_0 l0_0.length c0_0),(.slice A0_1 l0_1.length c0_1),(.slice A0_2 l0_2.length c0_2)] 31 (0,0)))∧Aside0 (Below w.heap.size w w'))
  case atStart=>exact ⟨(y14003),(y14006),(0),za13,H',⟨Nat.le_refl _⟩,⟨za1 HO5.out⟩,⟨za1 HO8.out⟩,⟨za0 BK1.out⟩,⟨za3⟩⟩
  case round =>
   clear H'
   try clear c4
   try clear hcz6_0
   try clear hcz6_1
   try clear hcz6_2
   try clear hfz6_0
   try clear hfz6_1
   try clear hfz6_2
   obtain ⟨x6_1,x7_1,x8_1,rfl,HA,HK1,HO_6,HO_7,BK1,HB⟩:=hrel
   cases gk with
   | zero=>exact absurd HA.out (by simp [spec_WordOfMap.l0])
   | succ k1 =>
    have H:=HA.out
    clear HA
    simp only [spec_WordOfMap.l0] at H
    by_cases c12:x8_1 < (x6_1.length:Int)
    rw [if_pos c12] at H
    have c12b0:=zdl c12
    clear c12
    by_cases c13:0≤x8_1
    rw [if_pos c13] at H
    have c13b0:=zdle c13
    clear c13
    by_cases c14:(rd x6_1 x8_1)=a1
    rw [if_pos c14] at H
    have c14b0:=zbt c14
    have c14b1:=zqn c14
    clear c14
    by_cases c15:x8_1 < (x7_1.length:Int)
    rw [if_pos c15] at H
    have c15b0:=zdl c15
    clear c15
    simp only [Option.some.injEq,Prod.mk.injEq] at H
    obtain ⟨rfl,rfl⟩:=H
    obtain ⟨Ao16,co16,eo16⟩:=Kd.R_slice HO_6.out
    subst eo16
    have p14009:0≤(x8_1:Int):=of_decide_eq_true za7
    have q14009:x8_1 < (x6_1.length:Int):=of_decide_eq_true za7
    obtain ⟨ad14009,e14009,hx14009_0⟩:=Kd.at_int (Kd.R_reads' HO_6.out).2.2 x8_1 p14009 q14009
    cases e14009
    replace p14009:=eq_true p14009
    replace q14009:=eq_true q14009
    obtain ⟨Ao17,co17,eo17⟩:=Kd.R_slice HO_7.out
    subst eo17
    have p14010:0≤(x8_1:Int):=of_decide_eq_true za7
    have q14010:x8_1 < (x7_1.length:Int):=of_decide_eq_true za7
    obtain ⟨ad14010,e14010,hx14010_0⟩:=Kd.at_string (Kd.R_reads' HO_7.out).2.2 x8_1 p14010 q14010
    cases e14010
    replace p14010:=eq_true p14010
    replace q14010:=eq_true q14010
    rotate_left
    · rw [if_neg c15] at H
      exact absurd H (by simp)
    · rw [if_neg c14] at H
      have c14b0:=zbn c14
      have c14b1:=zqt c14
      have H':=zk H
      clear H
      obtain ⟨Ao18,co18,eo18⟩:=Kd.R_slice HO_6.out
      subst eo18
      have p14009:0≤(x8_1:Int):=of_decide_eq_true za7
      have q14009:x8_1 < (x6_1.length:Int):=of_decide_eq_true za7
      obtain ⟨ad14009,e14009,hx14009_0⟩:=Kd.at_int (Kd.R_reads' HO_6.out).2.2 x8_1 p14009 q14009
      cases e14009
      replace p14009:=eq_true p14009
      replace q14009:=eq_true q14009
      go_wp2
      try simp only [Act.put,zt,zv,zu]
      go_loopg [6,7,9] k1 (fun kq v6 v7 v9 w'=>∃ (x6_2:List Int) (x7_2:List ByteArray) (x9_2:Int),v9 = .int .i64 x9_2∧Aside0 (spec_WordOfMap.l1 kq a1 x6_2 x7_2 x8_1 x9_2 l0_0 l0_1 l0_2=some (r1,r2))∧Aside0 (kq≤k1)∧Aside0 (Kd.R (Kd.int .i64) 3 w' w.heap.size (fun _=>True) v6 x6_2)∧Aside0 (Kd.R Kd.string 9 w' w.heap.size (fun _=>True) v7 x7_2)∧Aside0 (w'.heap[gb1]? = some (.cells #[(.slice A0_0 l0_0.length c0_0),(.slice A0_1 l0_1.length c0_1),(.slice A0_2 l0_2.length c0_2)] 31 (0,0)))∧Aside0 (Below w.heap.size w w'))
      case atStart=>exact ⟨(x6_1),(x7_1),(0),za13,H',⟨Nat.le_refl _⟩,⟨za1 HO_6.out⟩,⟨za1 HO_7.out⟩,⟨za0 BK1.out⟩,⟨za3⟩⟩
      case round =>
       clear H'
       try clear c4
       try clear c14
       try clear c14b0
       try clear c14b1
       try clear hcz6_0
       try clear hcz6_1
       try clear hcz6_2
       try clear hfz6_0
       try clear hfz6_1
       try clear hfz6_2
       try clear hx14009_0
       try clear p14009
       try clear q14009
       obtain ⟨x6_2,x7_2,x9_2,rfl,HA,HK2,HO_6,HO_7,BK1,HB⟩:=hrel
       cases gk with
       | zero=>exact absurd HA.out (by simp [spec_WordOfMap.l1])
       | succ k2 =>
        have H:=HA.out
        clear HA
        simp only [spec_WordOfMap.l1] at H
        by_cases c19:x9_2 < 3
        rw [if_pos c19] at H
        have c19b0:=zdl c19
        clear c19
        by_cases c20:0≤x8_1
        rw [if_pos c20] at H
        have c20b0:=zdle c20
        clear c20
        by_cases c21:x8_1 < (x6_2.length:Int)
        rw [if_pos c21] at H
        have c21b0:=zdl c21
        clear c21
        by_cases c22:0≤(rd x6_2 x8_1)
        rw [if_pos c22] at H
        have c22b0:=zdle c22
        clear c22
        by_cases c23:(rd x6_2 x8_1) < (l0_2.length:Int)
        rw [if_pos c23] at H
        have c23b0:=zdl c23
        clear c23
        by_cases c24:0≤x9_2
        rw [if_pos c24] at H
        have c24b0:=zdle c24
        clear c24
        by_cases c25:x9_2 < (l0_1.length:Int)
        rw [if_pos c25] at H
        have c25b0:=zdl c25
        clear c25
        by_cases c26:0≤(rd l0_1 x9_2)
        rw [if_pos c26] at H
        have c26b0:=zdle c26
        clear c26
        by_cases c27:(rd l0_1 x9_2) < ((rd_L3 l0_2 (rd x6_2 x8_1)).length:Int)
        rw [if_pos c27] at H
        have c27b0:=zdl c27
        clear c27
        obtain ⟨t15,A28,H⟩:=zO H
        try dsimp only at H
        by_cases c29:t15 < 0
        rw [if_pos c29] at H
        have c29b0:=zdl c29
        clear c29
        by_cases c30:x6_2.length < 17592186044416
        rw [if_pos c30] at H
        have LMc30:=zk c30
        clear c30
        obtain ⟨y14016,hy14016⟩:∃ y_:List Int,y_=(x6_2 ++ [rd (rd_L3 l0_2 (rd x6_2 x8_1)) (rd l0_1 x9_2)]):=⟨_,rfl⟩
        replace H:(if x8_1 < (x7_2.length:Int) then (if x9_2≤(wrap64 (x9_2+1)) then (if (wrap64 (x9_2+1))≤3 then (if (rdOf ByteArray.empty x7_2 x8_1).size+((⟨#[97,98,99]⟩:ByteArray).extract (x9_2:Int).toNat ((wrap64 (x9_2+1)):Int).toNat).size≤9223372036854775807 then (if x7_2.length < 8796093022208 then (spec_WordOfMap.l1 k2 a1 y14016 (x7_2 ++ [(rdOf ByteArray.empty x7_2 x8_1) ++ ((⟨#[97,98,99]⟩:ByteArray).extract (x9_2:Int).toNat ((wrap64 (x9_2+1)):Int).toNat)]) x8_1 (wrap64 (x9_2+1)) l0_0 l0_1 l0_2) else (none)) else (none)) else (none)) else (none)) else (none))=some (r1,r2):=by first|(rw [hy14016];with_reducible exact H)|(have H2_:=(Option.bind_some _ _).symm.trans H;rw [hy14016];with_reducible exact H2_)|(have H2_:=(Option.bind_some _ _).symm.trans H;with_reducible exact H2_)|with_reducible exact H|(rw [hy14016];exact H)|exact H
        have Ny16:=zk hy14016
        clear hy14016
        by_cases c31:x8_1 < (x7_2.length:Int)
        rw [if_pos c31] at H
        have c31b0:=zdl c31
        clear c31
        have c32b0:=eq_true (of_decide_eq_true za7:0≤x9_2)
        by_cases c33:x9_2≤(wrap64 (x9_2+1))
        rw [if_pos c33] at H
        have c33b0:=eq_true c33
        have c33b1:=zdle c33
        by_cases c34:(wrap64 (x9_2+1))≤3
        rw [if_pos c34] at H
        have c34b0:=eq_true c34
        have c34b1:=zdle c34
        by_cases c35:(rdOf ByteArray.empty x7_2 x8_1).size+((⟨#[97,98,99]⟩:ByteArray).extract (x9_2:Int).toNat ((wrap64 (x9_2+1)):Int).toNat).size≤9223372036854775807
        rw [if_pos c35] at H
        have c35z:=c35
        try simp at c35z
        try replace c35z:=eq_false (Nat.not_lt.2 c35z)
        have c35b0:=eq_true c35
        have c35b1:=zdle c35
        try have c35b2:(9223372036854775807 < (rdOf ByteArray.empty x7_2 x8_1).size+((⟨#[97,98,99]⟩:ByteArray).extract (x9_2:Int).toNat ((wrap64 (x9_2+1)):Int).toNat).size)=False:=eq_false (Nat.not_lt.2 c35)
        by_cases c36:x7_2.length < 8796093022208
        ·rw [if_pos c36] at H
         have LMc36:=zk c36
         clear c36
         obtain ⟨y14020,hy14020⟩:∃ y_:List ByteArray,y_=(x7_2 ++ [(rdOf ByteArray.empty x7_2 x8_1) ++ ((⟨#[97,98,99]⟩:ByteArray).extract (x9_2:Int).toNat ((wrap64 (x9_2+1)):Int).toNat)]):=⟨_,rfl⟩
         replace H:(spec_WordOfMap.l1 k2 a1 y14016 y14020 x8_1 (wrap64 (x9_2+1)) l0_0 l0_1 l0_2)=some (r1,r2):=by first|(rw [hy14020];with_reducible exact H)|(have H2_:=(Option.bind_some _ _).symm.trans H;rw [hy14020];with_reducible exact H2_)|(have H2_:=(Option.bind_some _ _).symm.trans H;with_reducible exact H2_)|with_reducible exact H|(rw [hy14020];exact H)|exact H
         have Ny20:=zk hy14020
         clear hy14020
         have H':=zk H
         clear H
         try go_wp2
         replace HO_6:=zk (Kd.R_drew HO_6.out)
         replace HO_7:=zk (Kd.R_drew HO_7.out)
         replace BK1:=zk (blk_drew BK1.out)
         replace HB:=zk (below_drew1 HB.out)
         obtain ⟨Ao38,co38,eo38⟩:=Kd.R_slice HO_6.out
         (first|subst eo38|(injection eo38 with f1_ f2_ f3_;have f4_:=f1_.symm;have f5_:=f3_.symm;clear f1_ f2_ f3_;subst f4_;subst f5_))
         have p14011:0≤(x8_1:Int):=of_decide_eq_true za7
         have q14011:x8_1 < (x6_2.length:Int):=of_decide_eq_true za7
         obtain ⟨ad14011,e14011,hx14011_0⟩:=Kd.at_int (Kd.R_reads' HO_6.out).2.2 x8_1 p14011 q14011
         cases e14011
         replace p14011:=eq_true p14011
         replace q14011:=eq_true q14011
         have p14012:0≤((rd x6_2 x8_1):Int):=of_decide_eq_true za7
         have q14012:(rd x6_2 x8_1) < (l0_2.length:Int):=of_decide_eq_true za7
         obtain ⟨ad14012,A14012_0,c14012_0,e14012,hx14012_0,hl14012_0,hi14012_0⟩:=at_L3 HR0_2.out (rd x6_2 x8_1) p14012 q14012
         have hw14012_0:=hx14012_0
         cases e14012
         replace hx14012_0:=zx HB.out hx14012_0
         have HR14012_0:=zk hi14012_0
         have HC14012_0:=zk hl14012_0
         clear hi14012_0 hl14012_0
         replace p14012:=eq_true p14012
         replace q14012:=eq_true q14012
         have p14013:0≤(x9_2:Int):=of_decide_eq_true za7
         have q14013:x9_2 < (l0_1.length:Int):=of_decide_eq_true za7
         obtain ⟨ad14013,e14013,hx14013_0⟩:=Kd.at_int HR0_1.out x9_2 p14013 q14013
         have hw14013_0:=hx14013_0
         cases e14013
         replace hx14013_0:=zx HB.out hx14013_0
         replace p14013:=eq_true p14013
         replace q14013:=eq_true q14013
         have p14014:0≤((rd l0_1 x9_2):Int):=of_decide_eq_true za7
         have q14014:(rd l0_1 x9_2) < ((rd_L3 l0_2 (rd x6_2 x8_1)).length:Int):=of_decide_eq_true za7
         obtain ⟨ad14014,e14014,hx14014_0⟩:=Kd.at_int HR14012_0.out (rd l0_1 x9_2) p14014 q14014
         have hw14014_0:=hx14014_0
         cases e14014
         replace hx14014_0:=zx HB.out hx14014_0
         replace p14014:=eq_true p14014
         replace q14014:=eq_true q14014
         refine start_ (n:=16) (S:=fun w'=>w'.cell? ⟨gb1,0,none⟩=some (.slice A0_0 l0_0.length c0_0)∧w'.cell? ⟨gb1,1,none⟩=some (.slice (some ad14013) l0_1.length c0_1)∧w'.cell? ⟨gb1,2,none⟩=some (.slice (some ad14012) l0_2.length c0_2)∧w'.cell? (ad14011.add (x8_1).toNat)=some (.int .i64 (rd x6_2 x8_1))∧w'.cell? (ad14012.add ((rd x6_2 x8_1)).toNat)=some (.slice (some ad14014) (rd_L3 l0_2 (rd x6_2 x8_1)).length c14012_0)∧w'.cell? (ad14013.add (x9_2).toNat)=some (.int .i64 (rd l0_1 x9_2))∧w'.cell? (ad14014.add ((rd l0_1 x9_2)).toNat)=some (.int .i64 (rd (rd_L3 l0_2 (rd x6_2 x8_1)) (rd l0_1 x9_2)))) (ds:=[]) #[false,false,false,false,false,false,false,false,false,false,false,false,false,false,false,false] (by kernel_rfl) rfl rfl ⟨(blk_cell BK1.out 0).trans rfl,(blk_cell BK1.out 1).trans rfl,(blk_cell BK1.out 2).trans rfl,hx14011_0,((HB.out.cell (World.block_lt_of_cell? w _ hw14012_0)).trans hw14012_0),((HB.out.cell (World.block_lt_of_cell? w _ hw14013_0)).trans hw14013_0),((HB.out.cell (World.block_lt_of_cell? w _ hw14014_0)).trans hw14014_0)⟩ (fun hHeld=>?_);refine with_tabW spec_WordOfMap.tab13 spec_WordOfMap.bits13 (fun HT_ HW_=>?_)
         generalize wr.drew=w37 at HO_6 HO_7 BK1 HB HR14012_0 hx14011_0 hx14012_0 hx14013_0 hx14014_0 hHeld ⊢
         refine zy 0 (some 36) HT_.out ?_
         refine zy 2 (some 38) HT_.out ?_
         refine zy 3 (some 39) HT_.out ?_
         refine zy 4 (some 40) HT_.out ?_
         refine zy 8 (some 44) HT_.out ?_
         refine zy 10 (some 46) HT_.out ?_
         refine ztk 1 (some 37) HT_.out HW_.out hHeld ?_
         refine ztk 5 (some 41) HT_.out HW_.out hHeld ?_
         refine zy 6 (some 42) HT_.out ?_
         refine ztk 7 (some 43) HT_.out HW_.out hHeld ?_
         refine ztk 9 (some 45) HT_.out HW_.out hHeld ?_
         refine zy 11 (some 47) HT_.out ?_
         refine ztk 12 (some 48) HT_.out HW_.out hHeld ?_
         refine zy 13 (some 49) HT_.out ?_
         refine ztk 14 (some 50) HT_.out HW_.out hHeld ?_
         refine zy 15 (some 10) HT_.out ?_
         refine done_ (done_of HT_.out (by kernel_rfl)) ?_
         try go_wp2_with (first|((with_reducible refine gate_callee (f:=44) rfl ?_);refine zg (some 53) Try.func44 #[.slice (some ad14011) x6_2.length co38,.int .i64 (rd (rd_L3 l0_2 (rd x6_2 x8_1)) (rd l0_1 x9_2))] rfl za4 ?_;(with_reducible refine (spec_l5Find.calls k2 _ _ x6_2 (rd (rd_L3 l0_2 (rd x6_2 x8_1)) (rd l0_1 x9_2)) t15 _ ?side1 ?side2 A28.out).mono ?_);(case side1=>repeat (first|exact (Kd.R_reads' HO_6.out).2.2|(with_reducible refine Kd.C_alloc ?_ _)|(with_reducible refine Kd.C_drewN ?_ _)|(with_reducible refine Kd.C_drew ?_)));(case side2=>exact (Kd.R_reads' HO_6.out).2.1);rintro e w' ⟨rfl,⟨nd,rfl⟩⟩;refine ⟨_,rfl,?_⟩)|((with_reducible refine gate_builtin (b:=.append) (xs:=#[.tmp 55,.tmp 57]) rfl ?_);at_builtin;refine Kd.R_append (Kd.int .i64) (w0:=w) w.heap.size rfl (.tmp 55) (.tmp 57) 29 3 (.int .i64 0) 8 rfl Try.underlying29 info3 rfl (by decide) (by omega) (.slice (some ad14011) x6_2.length co38) x6_2 (rd (rd_L3 l0_2 (rd x6_2 x8_1)) (rd l0_1 x9_2)) [.int .i64 (rd (rd_L3 l0_2 (rd x6_2 x8_1)) (rd l0_1 x9_2))] (fun _=>True) (fun _=>False) rfl rfl ?aP (fun _ hk=>hk.elim) ?aF ?aO ?aB ?aS ?aL ?_;(case aP=>exact rfl);(case aB=>exact za3);(case aF=>exact (fun _ _=>trivial));(case aO=>exact (za1 HO_6.out));(case aS=>exact (below_size za3));(case aL=>have:=LMc30.out;omega);intro v17 w39 ho hb hg hat;rw [← Ny16.out] at ho;replace HO_7:=zk (Kd.R_over' (za1 HO_7.out) (Kd.R_typed (za1 HO_6.out)) (by decide) hg);replace BK1:=zk (blk_grown (g:=gb1) (o:=.cells #[.slice A0_0 l0_0.length c0_0,.slice (some ad14013) l0_1.length c0_1,.slice (some ad14012) l0_2.length c0_2] 31 (0,0)) (za0 BK1.out) hg (Kd.R_ne HO_6.out BK1.out (by decide)));replace HB:=zk hb;have HO18:=zk ho;clear HO_6;clear ho hb hg hat))
         replace HO_7:=zk (Kd.R_drew HO_7.out)
         replace HO18:=zk (Kd.R_drew HO18.out)
         replace BK1:=zk (blk_drew BK1.out)
         replace HB:=zk (below_drew1 HB.out)
         obtain ⟨Ao41,co41,eo41⟩:=Kd.R_slice HO_7.out
         (first|subst eo41|(injection eo41 with f1_ f2_ f3_;have f4_:=f1_.symm;have f5_:=f3_.symm;clear f1_ f2_ f3_;subst f4_;subst f5_))
         have p14019:0≤(x8_1:Int):=of_decide_eq_true za7
         have q14019:x8_1 < (x7_2.length:Int):=of_decide_eq_true za7
         obtain ⟨ad14019,e14019,hx14019_0⟩:=Kd.at_string (Kd.R_reads' HO_7.out).2.2 x8_1 p14019 q14019
         cases e14019
         replace p14019:=eq_true p14019
         replace q14019:=eq_true q14019
         refine start_ (n:=13) (S:=fun w'=>w'.cell? (ad14019.add (x8_1).toNat)=some (.string (rdOf ByteArray.empty x7_2 x8_1))) (ds:=[10,11]) #[false,false,false,false,false,false,false,false,false,false,false,false,false] (by kernel_rfl) rfl rfl (hx14019_0) (fun hHeld=>?_);refine with_tabW spec_WordOfMap.tab16 spec_WordOfMap.bits16 (fun HT_ HW_=>?_)
         generalize w39.drew=w40 at HO_7 HO18 BK1 HB hx14019_0 hHeld ⊢
         refine zy 0 (some 59) HT_.out ?_
         refine zy 1 (some 60) HT_.out ?_
         refine zy 2 (some 61) HT_.out ?_
         refine zy 3 (some 62) HT_.out ?_
         refine zy 5 (some 64) HT_.out ?_
         refine zy 6 (some 65) HT_.out ?_
         refine zy 7 (some 66) HT_.out ?_
         refine zy 8 (some 67) HT_.out ?_
         refine ztk 4 (some 63) HT_.out HW_.out hHeld ?_
         refine zy 9 (some 68) HT_.out ?_
         refine last_ (i:=10) (N:=some 69) #[true,true,true,true,true,true,true,true,true,true,true,false,false] rfl rfl (one_of HT_.out (by kernel_rfl)) (by decide) (fun K hK=>?_)
         refine value_ (w1:=?_) (v:=?_) (by rfl) rfl ?_ ?_
         rotate_left 2
         ·go_simp
          constructor
          ·rfl
          ·rfl
         refine hK.out _ _ ?_
         clear hK K
         refine zno (some 69) ?_
         refine last_ (i:=11) (N:=some 70) #[true,true,true,true,true,true,true,true,true,true,true,true,false] rfl rfl (one_of HT_.out (by kernel_rfl)) (by decide) (fun K hK=>?_)
         refine Kd.R_append_step Kd.string (w0:=w) w.heap.size (by rfl) (.tmp 59) (.tmp 69) 35 9 (.string ⟨#[]⟩) 16 rfl Try.underlying35 info9 rfl (by decide) (by omega) (.slice (some ad14019) x7_2.length co41) x7_2 ((rdOf ByteArray.empty x7_2 x8_1) ++ ((⟨#[97,98,99]⟩:ByteArray).extract (x9_2:Int).toNat ((wrap64 (x9_2+1)):Int).toNat)) [.string ((rdOf ByteArray.empty x7_2 x8_1) ++ ((⟨#[97,98,99]⟩:ByteArray).extract (x9_2:Int).toNat ((wrap64 (x9_2+1)):Int).toNat))] (fun _=>True) (fun _=>False) rfl rfl ?aP (fun _ hk=>hk.elim) ?aF ?aO ?aB ?aS ?aL ?_
         (case aP=>exact rfl)
         (case aB=>exact za3)
         (case aF=>exact (fun _ _=>trivial))
         (case aO=>exact (za1 HO_7.out))
         (case aS=>exact (below_size za3))
         (case aL=>have:=LMc36.out;omega)
         intro v21 w42 ho hb hg hat
         rw [← Ny20.out] at ho
         replace BK1:=zk (blk_grown (g:=gb1) (o:=.cells #[.slice A0_0 l0_0.length c0_0,.slice (some ad14013) l0_1.length c0_1,.slice (some ad14012) l0_2.length c0_2] 31 (0,0)) (za0 BK1.out) hg (Kd.R_ne HO_7.out BK1.out (by decide)))
         replace HO18:=zk (Kd.R_over' (za1 HO18.out) (Kd.R_typed (za1 HO_7.out)) (by decide) hg)
         replace HB:=zk hb
         have HO22:=zk ho
         clear HO_7
         clear ho hb hg hat
         refine hK.out _ _ ?_
         clear hK K
         refine zno (some 70) ?_
         refine zy 12 (some 7) HT_.out ?_
         refine done_ (done_of HT_.out (by kernel_rfl)) ?_
         try go_wp2
         go_roundg k2
         case measure=>have:=HK1.out;have:=HK2.out;omega
         case rel=>exact ⟨(y14016),(y14020),(wrap64 (x9_2+1)),za13,H',⟨za59⟩,⟨za1 HO18.out⟩,⟨za1 HO22.out⟩,⟨za0 BK1.out⟩,⟨za3⟩⟩
        ·rw [if_neg c36] at H
         exact absurd H (by simp)
        ·rw [if_neg c35] at H
         exact absurd H (by simp)
        ·rw [if_neg c34] at H
         exact absurd H (by simp)
        ·rw [if_neg c33] at H
         exact absurd H (by simp)
        ·rw [if_neg c31] at H
         exact absurd H (by simp)
        ·rw [if_neg c30] at H
         exact absurd H (by simp)
        ·rw [if_neg c29] at H
         have c29b0:=zdnl c29
         clear c29
         have H':=zk H
         clear H
         try go_wp2
         replace HO_6:=zk (Kd.R_drew HO_6.out)
         replace HO_7:=zk (Kd.R_drew HO_7.out)
         replace BK1:=zk (blk_drew BK1.out)
         replace HB:=zk (below_drew1 HB.out)
         obtain ⟨Ao44,co44,eo44⟩:=Kd.R_slice HO_6.out
         (first|subst eo44|(injection eo44 with f1_ f2_ f3_;have f4_:=f1_.symm;have f5_:=f3_.symm;clear f1_ f2_ f3_;subst f4_;subst f5_))
         have p14011:0≤(x8_1:Int):=of_decide_eq_true za7
         have q14011:x8_1 < (x6_2.length:Int):=of_decide_eq_true za7
         obtain ⟨ad14011,e14011,hx14011_0⟩:=Kd.at_int (Kd.R_reads' HO_6.out).2.2 x8_1 p14011 q14011
         cases e14011
         replace p14011:=eq_true p14011
         replace q14011:=eq_true q14011
         have p14012:0≤((rd x6_2 x8_1):Int):=of_decide_eq_true za7
         have q14012:(rd x6_2 x8_1) < (l0_2.length:Int):=of_decide_eq_true za7
         obtain ⟨ad14012,A14012_0,c14012_0,e14012,hx14012_0,hl14012_0,hi14012_0⟩:=at_L3 HR0_2.out (rd x6_2 x8_1) p14012 q14012
         have hw14012_0:=hx14012_0
         cases e14012
         replace hx14012_0:=zx HB.out hx14012_0
         have HR14012_0:=zk hi14012_0
         have HC14012_0:=zk hl14012_0
         clear hi14012_0 hl14012_0
         replace p14012:=eq_true p14012
         replace q14012:=eq_true q14012
         have p14013:0≤(x9_2:Int):=of_decide_eq_true za7
         have q14013:x9_2 < (l0_1.length:Int):=of_decide_eq_true za7
         obtain ⟨ad14013,e14013,hx14013_0⟩:=Kd.at_int HR0_1.out x9_2 p14013 q14013
         have hw14013_0:=hx14013_0
         cases e14013
         replace hx14013_0:=zx HB.out hx14013_0
         replace p14013:=eq_true p14013
         replace q14013:=eq_true q14013
         have p14014:0≤((rd l0_1 x9_2):Int):=of_decide_eq_true za7
         have q14014:(rd l0_1 x9_2) < ((rd_L3 l0_2 (rd x6_2 x8_1)).length:Int):=of_decide_eq_true za7
         obtain ⟨ad14014,e14014,hx14014_0⟩:=Kd.at_int HR14012_0.out (rd l0_1 x9_2) p14014 q14014
         have hw14014_0:=hx14014_0
         cases e14014
         replace hx14014_0:=zx HB.out hx14014_0
         replace p14014:=eq_true p14014
         replace q14014:=eq_true q14014
         refine start_ (n:=16) (S:=fun w'=>w'.cell? ⟨gb1,0,none⟩=some (.slice A0_0 l0_0.length c0_0)∧w'.cell? ⟨gb1,1,none⟩=some (.slice (some ad14013) l0_1.length c0_1)∧w'.cell? ⟨gb1,2,none⟩=some (.slice (some ad14012) l0_2.length c0_2)∧w'.cell? (ad14011.add (x8_1).toNat)=some (.int .i64 (rd x6_2 x8_1))∧w'.cell? (ad14012.add ((rd x6_2 x8_1)).toNat)=some (.slice (some ad14014) (rd_L3 l0_2 (rd x6_2 x8_1)).length c14012_0)∧w'.cell? (ad14013.add (x9_2).toNat)=some (.int .i64 (rd l0_1 x9_2))∧w'.cell? (ad14014.add ((rd l0_1 x9_2)).toNat)=some (.int .i64 (rd (rd_L3 l0_2 (rd x6_2 x8_1)) (rd l0_1 x9_2)))) (ds:=[]) #[false,false,false,false,false,false,false,false,false,false,false,false,false,false,false,false] (by kernel_rfl) rfl rfl ⟨(blk_cell BK1.out 0).trans rfl,(blk_cell BK1.out 1).trans rfl,(blk_cell BK1.out 2).trans rfl,hx14011_0,((HB.out.cell (World.block_lt_of_cell? w _ hw14012_0)).trans hw14012_0),((HB.out.cell (World.block_lt_of_cell? w _ hw14013_0)).trans hw14013_0),((HB.out.cell (World.block_lt_of_cell? w _ hw14014_0)).trans hw14014_0)⟩ (fun hHeld=>?_);refine with_tabW spec_WordOfMap.tab13 spec_WordOfMap.bits13 (fun HT_ HW_=>?_)
         generalize wr.drew=w43 at HO_6 HO_7 BK1 HB HR14012_0 hx14011_0 hx14012_0 hx14013_0 hx14014_0 hHeld ⊢
         refine zy 0 (some 36) HT_.out ?_
         refine zy 2 (some 38) HT_.out ?_
         refine zy 3 (some 39) HT_.out ?_
         refine zy 4 (some 40) HT_.out ?_
         refine zy 8 (some 44) HT_.out ?_
         refine zy 10 (some 46) HT_.out ?_
         refine ztk 1 (some 37) HT_.out HW_.out hHeld ?_
         refine ztk 5 (some 41) HT_.out HW_.out hHeld ?_
         refine zy 6 (some 42) HT_.out ?_
         refine ztk 7 (some 43) HT_.out HW_.out hHeld ?_
         refine ztk 9 (some 45) HT_.out HW_.out hHeld ?_
         refine zy 11 (some 47) HT_.out ?_
         refine ztk 12 (some 48) HT_.out HW_.out hHeld ?_
         refine zy 13 (some 49) HT_.out ?_
         refine ztk 14 (some 50) HT_.out HW_.out hHeld ?_
         refine zy 15 (some 10) HT_.out ?_
         refine done_ (done_of HT_.out (by kernel_rfl)) ?_
         try go_wp2_with (first|((with_reducible refine gate_callee (f:=44) rfl ?_);refine zg (some 53) Try.func44 #[.slice (some ad14011) x6_2.length co44,.int .i64 (rd (rd_L3 l0_2 (rd x6_2 x8_1)) (rd l0_1 x9_2))] rfl za4 ?_;(with_reducible refine (spec_l5Find.calls k2 _ _ x6_2 (rd (rd_L3 l0_2 (rd x6_2 x8_1)) (rd l0_1 x9_2)) t15 _ ?side1 ?side2 A28.out).mono ?_);(case side1=>repeat (first|exact (Kd.R_reads' HO_6.out).2.2|(with_reducible refine Kd.C_alloc ?_ _)|(with_reducible refine Kd.C_drewN ?_ _)|(with_reducible refine Kd.C_drew ?_)));(case side2=>exact (Kd.R_reads' HO_6.out).2.1);rintro e w' ⟨rfl,⟨nd,rfl⟩⟩;refine ⟨_,rfl,?_⟩))
         go_roundg k2
         case measure=>have:=HK1.out;have:=HK2.out;omega
         case rel=>exact ⟨(x6_2),(x7_2),(wrap64 (x9_2+1)),za13,H',⟨za59⟩,⟨za1 HO_6.out⟩,⟨za1 HO_7.out⟩,⟨za0 BK1.out⟩,⟨za3⟩⟩
        ·rw [if_neg c27] at H
         exact absurd H (by simp)
        ·rw [if_neg c26] at H
         exact absurd H (by simp)
        ·rw [if_neg c25] at H
         exact absurd H (by simp)
        ·rw [if_neg c24] at H
         exact absurd H (by simp)
        ·rw [if_neg c23] at H
         exact absurd H (by simp)
        ·rw [if_neg c22] at H
         exact absurd H (by simp)
        ·rw [if_neg c21] at H
         exact absurd H (by simp)
        ·rw [if_neg c20] at H
         exact absurd H (by simp)
        ·rw [if_neg c19] at H
         have c19b0:=zdnl c19
         clear c19
         have H':=zk H
         clear H
         go_wp2
         go_roundg k2
         case measure=>have:=HK1.out;have:=HK2.out;omega
         case rel=>exact ⟨(x6_2),(x7_2),(wrap64 (x8_1+1)),za13,H',⟨za59⟩,⟨za1 HO_6.out⟩,⟨za1 HO_7.out⟩,⟨za0 BK1.out⟩,⟨za3⟩⟩
    · rw [if_neg c13] at H
      exact absurd H (by simp)
    rw [if_neg c12] at H
    have c12b0:=zdnl c12
    clear c12
    simp only [Option.some.injEq,Prod.mk.injEq] at H
    obtain ⟨rfl,rfl⟩:=H
    obtain ⟨Ao45,co45,eo45⟩:=Kd.R_slice HO_6.out
    subst eo45
    rotate_left
    all_goals
     go_wp2
     go_ret2
     exact ⟨za15,za3⟩
 ·replace c4:=Bool.eq_false_iff.mpr c4
  subst c4
  rw [if_neg zff] at H
  try dsimp only at H
  simp only [Option.some.injEq,Prod.mk.injEq] at H
  obtain ⟨rfl,rfl⟩:=H
  go_enter Try.func14,Try.ntmps14
  go_wp2_with (first|((with_reducible refine gate_dst (N:=2) rfl ?_);refine zE (cs:=#[.slice A0_0 l0_0.length c0_0,.slice A0_1 l0_1.length c0_1,.slice A0_2 l0_2.length c0_2]) (t:=31) ?_;intro gb1 hg w46 hbox hb;have BK1:=zk hbox;have GW1:=zk (zs (w:=w) hg za3);have GE1:=GW1;replace HB:=yB HB hb;clear hb hbox hg;obtain ⟨hcz47_0,hcz47_1,hcz47_2,hfz47_0,hfz47_1,hfz47_2⟩:=blk3 BK1.out)|((with_reducible refine gate_callee (f:=43) rfl ?_);refine zg (some 12) Try.func43 #[.agg #[.slice A0_0 l0_0.length c0_0,.slice A0_1 l0_1.length c0_1,.slice A0_2 l0_2.length c0_2]] rfl za4 ?_;(with_reducible refine (spec_l13Good.calls k _ _ l0_0 _ _ l0_1 _ _ l0_2 _ _ ?side1 ?side2 ?side3 ?side4 ?side5 ?side6 A3.out).mono ?_);(case side1=>repeat (first|exact (Kd.C_below HR0_0.out HB.out)|(with_reducible refine Kd.C_alloc ?_ _)|(with_reducible refine Kd.C_drewN ?_ _)|(with_reducible refine Kd.C_drew ?_)));(case side2=>exact HC0_0.out);(case side3=>repeat (first|exact (Kd.C_below HR0_1.out HB.out)|(with_reducible refine Kd.C_alloc ?_ _)|(with_reducible refine Kd.C_drewN ?_ _)|(with_reducible refine Kd.C_drew ?_)));(case side4=>exact HC0_1.out);(case side5=>repeat (first|exact (Kd.C_below HR0_2.out HB.out)|(with_reducible refine Kd.C_alloc ?_ _)|(with_reducible refine Kd.C_drewN ?_ _)|(with_reducible refine Kd.C_drew ?_)));(case side6=>exact HC0_2.out);rintro e w48 ⟨rfl,hb⟩;refine ⟨_,rfl,?_⟩;replace BK1:=yb BK1 hb;replace HB:=yB HB hb;(try clear hb)))
  go_ret2
  exact ⟨za15,za3⟩
end Go.Proofs.Ythkbgoohiinmbaa.A
