/- FnExactModelsUpTo: what its proof needs, put together by this session's program wip/merge.py out of the texts that wip/xp.py printed and of this session's own. -/
import Derived.Test.YtffjfdoghofkdaaGreatQFnExactModelsUpTo2
import Derived.Laws.EntriesVeiled
import Derived.Deep.LoopGhost
set_option linter.unusedVariables false
set_option linter.unusedSimpArgs false
set_option linter.unusedSectionVars false
set_option maxHeartbeats 8000000
set_option maxRecDepth 100000
-- ALSO loop.example/g00582/impl.WordsUpTo
-- ALSO loop.example/g00582/impl.BoundOf
-- ALSO loop.example/g00582/impl.WithValue
namespace Go.Proofs.YtffjfdoghofkdaaGreat.Ext
open Go Go.RowKit YtffjfdoghofkdaaGreatW.PrintWords YtffjfdoghofkdaaGreatW.PrintLast YtffjfdoghofkdaaGreat.A
mutual
def mwF:Nat→List S67→ByteArray→List ByteArray→Int→ByteArray→ByteArray→ByteArray→List S32→Option (List S32)
 | 0,_,_,_,_,_,_,_,_=>none
 | k+1,ps,ns,ws,i,x,y,z,out=>if i=(ns.size:Int) then ((impl_IsModel.f k ps x y z).bind fun t=>if t=true then (if out.length < 2932031007402 then some (out ++ [⟨x,y,z⟩]) else none) else some out) else mwL k ps ns ws i x y z out 0
def mwL:Nat→List S67→ByteArray→List ByteArray→Int→ByteArray→ByteArray→ByteArray→List S32→Int→Option (List S32)
 | 0,_,_,_,_,_,_,_,_,_=>none
 | k+1,ps,ns,ws,i,x,y,z,out,j=>if j < (ws.length:Int) then (if 0≤j∧0≤i∧i < (ns.size:Int) then ((impl_WithValue.f x y z (bt ns i) (rdOf ByteArray.empty ws j)).bind fun q=>(mwF k ps ns ws (wrap64 (i+1)) q.1 q.2.1 q.2.2 out).bind fun o=>mwL k ps ns ws i x y z o (wrap64 (j+1))) else none) else some out
end
structure Fr (go : Nat) (W : World) (vo : Value) (W' : World) (vo' : Value) : Prop where
 sz:W.heap.size≤W'.heap.size
 fr:∀ k,k < W.heap.size→k ≠ go→vo.ownBlock ≠ some k→W'.heap[k]? = W.heap[k]?
 n:∀ k,vo'.ownBlock=some k→vo.ownBlock=some k∨W.heap.size≤k
theorem Fr.refl (go:Nat) (W:World) (vo:Value):Fr go W vo W vo:=⟨Nat.le_refl _,fun _ _ _ _=>rfl,fun _ h => .inl h⟩
theorem Fr.trans {go:Nat} {W W1 W2:World} {v v1 v2:Value} (h:Fr go W v W1 v1) (h':Fr go W1 v1 W2 v2):Fr go W v W2 v2:=by
 refine ⟨Nat.le_trans h.sz h'.sz,fun k hk hg hv=>(h'.fr k (Nat.lt_of_lt_of_le hk h.sz) hg fun e=>?_).trans (h.fr k hk hg hv),fun k hk=>?_⟩
 ·rcases h.n k e with e|e
  ·exact hv e
  ·omega
 ·rcases h'.n k hk with e|e
  ·exact h.n k e
  ·exact .inr (Nat.le_trans h.sz e)
theorem Fr.below {go:Nat} {W W1 W2:World} {v v1:Value} (h:Fr go W v W1 v1) (hb:Below W1.heap.size W1 W2):Fr go W v W2 v1 :=
 h.trans ⟨below_size hb,fun k hk _ _=>hb.block k hk,fun _ h => .inl h⟩
structure St (w0 : World) (gn gp go gw gf : Nat) (A0 : Option Addr) (c0 : Nat) (ps : List S67) (ns : ByteArray) (Aw : Option Addr) (cw : Nat) (ws : List ByteArray) (W : World) (vo : Value) (out : List S32) : Prop where
 n:W.heap[gn]? = some (.cells #[.string ns] 9 (0,0))
 p:W.heap[gp]? = some (.cells #[.slice A0 ps.length c0] 26 (0,0))
 o:W.heap[go]? = some (.cells #[vo] 29 (0,0))
 w:W.heap[gw]? = some (.cells #[.slice Aw ws.length cw] 53 (0,0))
 k:W.heap[gf]? = some (.cells #[.func (.func 33) #[] #[.pointer (some ⟨gn,0,none⟩),.pointer (some ⟨gp,0,none⟩),.pointer (some ⟨go,0,none⟩),.pointer (some ⟨gw,0,none⟩),.pointer (some ⟨gf,0,none⟩)]] 55 (0,0))
 r:Kd.R k32 32 W w0.heap.size (fun _=>True) vo out
 q:Kd.R Kd.string 9 W w0.heap.size (fun k=>some k=(Value.slice Aw ws.length cw).ownBlock) (.slice Aw ws.length cw) ws
 b:Below w0.heap.size w0 W
 g:w0.heap.size≤go
section
variable {w0 : World} {gn gp go gw gf : Nat} {A0 : Option Addr} {c0 : Nat} {ps : List S67} {ns : ByteArray} {Aw : Option Addr} {cw : Nat} {ws : List ByteArray} {W W' : World} {vo vo' : Value} {out out' : List S32}
theorem St.below (h:St w0 gn gp go gw gf A0 c0 ps ns Aw cw ws W vo out) (hb:Below W.heap.size W W'):St w0 gn gp go gw gf A0 c0 ps ns Aw cw ws W' vo out :=
 ⟨blk_below h.n hb,blk_below h.p hb,blk_below h.o hb,blk_below h.w hb,blk_below h.k hb,Kd.R_below h.r hb,Kd.R_below h.q hb,below_step h.b hb,h.g⟩
theorem St.drewN (h:St w0 gn gp go gw gf A0 c0 ps ns Aw cw ws W vo out) (m:Nat):St w0 gn gp go gw gf A0 c0 ps ns Aw cw ws (W.drewN m) vo out:=h.below (pw_below_drewN (Below.refl _ _) m)
theorem St.drew (h:St w0 gn gp go gw gf A0 c0 ps ns Aw cw ws W vo out):St w0 gn gp go gw gf A0 c0 ps ns Aw cw ws W.drew vo out:=h.below (below_drew (Below.refl _ _))
theorem St.put (h:St w0 gn gp go gw gf A0 c0 ps ns Aw cw ws W vo out) (hg:W.grownBy W' vo.ownBlock) (hr:Kd.R k32 32 W' w0.heap.size (fun _=>True) vo' out') (hb:Below w0.heap.size w0 W') (hat:vo'.ownBlock=vo.ownBlock∨∃ b,vo'.ownBlock=some b∧W.heap.size≤b) :
  St w0 gn gp go gw gf A0 c0 ps ns Aw cw ws (W'.setCell ⟨go,0,none⟩ vo') vo' out'∧Fr go W vo (W'.setCell ⟨go,0,none⟩ vo') vo':=by
 have b1:=blk_grown h.n hg (Kd.R_ne h.r h.n (by decide))
 have b2:=blk_grown h.p hg (Kd.R_ne h.r h.p (by decide))
 have b3:=blk_grown h.o hg (Kd.R_ne h.r h.o (by decide))
 have b4:=blk_grown h.w hg (Kd.R_ne h.r h.w (by decide))
 have b5:=blk_grown h.k hg (Kd.R_ne h.r h.k (by decide))
 have q1:Kd.R Kd.string 9 W' w0.heap.size (fun k=>some k=(Value.slice Aw ws.length cw).ownBlock) (.slice Aw ws.length cw) ws:=by
  refine Kd.R_grown h.q hg fun k hk e=>?_
  obtain ⟨cs,hc⟩:=Kd.R_typed h.q k hk.symm
  exact Kd.R_ne h.r hc (by decide) e
 refine ⟨⟨blk_far b1 (blk_ne b1 b3 (by decide)) _,blk_far b2 (blk_ne b2 b3 (by decide)) _,blk_put b3 0 _ rfl,blk_far b4 (blk_ne b4 b3 (by decide)) _,blk_far b5 (blk_ne b5 b3 (by decide)) _,Kd.R_set hr b3 (by decide) 0 _,Kd.R_set q1 b3 (by decide) 0 _,hb.setCell h.g _,h.g⟩,⟨?_,fun k hk hne hv=>?_,fun k hk=>?_⟩⟩
 ·have:=hg.size;simpa using this
 ·rw [Below.heap_setCell _ _ _ _ hne]
  exact hg.block k hk fun e=>hv e.symm
 ·rcases hat with e|⟨b,e,hb⟩
  ·exact .inl (e ▸ hk)
  ·rw [e] at hk
   injection hk with hk
   exact .inr (hk ▸ hb)
set_option maxHeartbeats 4000000 in
theorem walk_calls (hps:Kd.C k67 w0 A0 ps.length ps) (hc0:ps.length≤c0) (hns:ns.size≤1000) (k:Nat):∀ (i:Int) (x y z:ByteArray) (out r:List S32) (W:World) (vo:Value),St w0 gn gp go gw gf A0 c0 ps ns Aw cw ws W vo out→mwF k ps ns ws i x y z out=some r →
  Calls Tryz.prog 33 #[.int .i64 i,.agg #[.string x,.string y,.string z],.pointer (some ⟨gn,0,none⟩),.pointer (some ⟨gp,0,none⟩),.pointer (some ⟨go,0,none⟩),.pointer (some ⟨gw,0,none⟩),.pointer (some ⟨gf,0,none⟩)] W fun e W'=>e = .returned (.tuple #[])∧∃ v',St w0 gn gp go gw gf A0 c0 ps ns Aw cw ws W' v' r∧Fr go W vo W' v':=by
 induction k using Nat.strongRecOn with
 | _ k ih =>
 intro i x y z out r W vo hS h
 cases k with
 | zero=>exact absurd h (by simp [mwF])
 | succ k =>
 simp only [mwF] at h
 have HS:=zk hS
 have HP:=zk hps
 have HC:=zk hc0
 have HN:=zk hns
 have HI:=zk ih
 have HH:=zk h
 clear hps hc0 hns ih h hS
 go_enter Tryz.func33,Tryz.ntmps33
 go_upto_region 1 with (first
  | ((with_reducible refine gate_dst (N:=8) rfl ?_);refine zE (N:=8) (cs:=#[.string x,.string y,.string z]) (t:=32) ?_;intro gv hgv w1 hbox hb1;have X1:=zk hbox;have S1:=zk (HS.out.below hb1);have F1:=zk ((Fr.refl go W vo).below hb1);have G1:=zk hgv;clear hb1 hbox hgv))
 obtain ⟨n0,n1⟩:=blk1 S1.out.n
 obtain ⟨p0,p1⟩:=blk1 S1.out.p
 obtain ⟨o0,o1⟩:=blk1 S1.out.o
 obtain ⟨w0_,w1_⟩:=blk1 S1.out.w
 obtain ⟨k0,k1⟩:=blk1 S1.out.k
 obtain ⟨x0,x1,x2,y0,y1,y2⟩:=blk3 X1.out
 have h:=HH.out
 clear HH
 by_cases hi:i=(ns.size:Int)
 ·subst hi
  rw [if_pos rfl] at h
  obtain ⟨t,ht,h⟩:=zo h
  have HM:=zk (fun (W':World) (hb:Below w0.heap.size w0 W')=>impl_IsModel.calls k A0 c0 ps x y z t W' (Kd.C_below HP.out hb) HC.out ht)
  clear ht
  cases t with
  | false =>
   obtain rfl:=zi (show some out=some r from h)
   clear h
   go_wp2_with (go_at_call 15;(with_reducible refine (HM.out _ S1.out.b).mono ?_);rintro e w2 ⟨rfl,hb2⟩;have S2:=zk (S1.out.below hb2);have F2:=zk (F1.out.below hb2);clear hb2)
   (try simp only [Exit.inBlock,Exit.then])
   refine bodyPost_ret (results_none rfl _ _ _) rfl ?_
   exact ⟨za42,vo,S2.out,F2.out⟩
  | true =>
   rw [if_pos rfl] at h
   by_cases hl:out.length < 2932031007402
   ·rw [if_pos hl] at h
    obtain rfl:=zi h
    have HL:=zk hl
    clear h hl
    go_wp2_with (first
     | (go_at_call 15;(with_reducible refine (HM.out _ S1.out.b).mono ?_);rintro e w2 ⟨rfl,hb2⟩;have S2:=zk (S1.out.below hb2);have F2:=zk (F1.out.below hb2);have X2:=zk (blk_below X1.out hb2);clear hb2 n0 n1 p0 p1 o0 o1 w0_ w1_ k0 k1 x0 x1 x2 y0 y1 y2;obtain ⟨o0,o1⟩:=blk1 S2.out.o;obtain ⟨x0,x1,x2,y0,y1,y2⟩:=blk3 X2.out)
     | ((with_reducible refine gate_builtin (b:=.append) (xs:=#[.tmp 18,.tmp 20]) rfl ?_);at_builtin;refine Kd.R_append k32 (w0:=w0) w0.heap.size rfl (.tmp 18) (.tmp 20) 29 32 (.agg #[(.string ⟨#[]⟩),(.string ⟨#[]⟩),(.string ⟨#[]⟩)]) 48 rfl Tryz.underlying29 info32 rfl (by decide) (by decide) vo out (⟨x,y,z⟩:S32) [.string x,.string y,.string z] (fun _=>True) (fun _=>False) rfl rfl (k32_mkM _ _ _ (⟨x,y,z⟩:S32)) (fun _ hk=>hk.elim) (fun _ _=>trivial) S2.out.r S2.out.b S2.out.b.size (by have:=HL.out;omega) ?_;intro v3 w3 ho hb hg hat;have S3:=zk (S2.out.put hg ho hb hat);have Z3:=zk (blk_grown S2.out.o hg (Kd.R_ne S2.out.r S2.out.o (by decide)));clear o0 o1 x0 x1 x2 y0 y1 y2;obtain ⟨A3,c3,e3⟩:=Kd.R_slice ho;subst e3;obtain ⟨o0,o1⟩:=blk1 Z3.out;clear ho hb hg hat))
    (try simp only [Exit.inBlock,Exit.then])
    refine bodyPost_ret (results_none rfl _ _ _) rfl ?_
    have T3:=S3.out
    rw [show (out ++ [(⟨x,y,z⟩:S32)]).length=out.length+1 by simp] at T3
    exact ⟨za42,_,T3.1,F2.out.trans T3.2⟩
   ·rw [if_neg hl] at h
    cases h
 ·rw [if_neg hi] at h
  have d1:decide (i=(ns.size:Int))=false:=decide_eq_false hi
  have d2:(i == (ns.size:Int))=false:=beq_eq_false_iff_ne.mpr hi
  have HH:=zk h
  clear h hi p0 p1 o0 o1 x0 x1 x2 y0 y1 y2
  go_wp2
  go_loopg [24] k (fun kq v24 w'=>∃ (o2:List S32) (j:Int) (v2:Value),v24 = .int .i64 j∧Aside0 (mwL kq ps ns ws i x y z o2 j=some r)∧Aside0 (kq≤k)∧Aside0 (St w0 gn gp go gw gf A0 c0 ps ns Aw cw ws w' v2 o2)∧Aside0 (Fr go W vo w' v2)∧Aside0 (w'.heap[gv]? = some (.cells #[.string x,.string y,.string z] 32 (0,0)))∧Aside0 (v2.ownBlock ≠ some gv))
  case atStart=>exact ⟨out,0,vo,za42,HH,⟨Nat.le_refl _⟩,S1,F1,X1,⟨fun e=>by have:=Kd.R_lt HS.out.r gv e;have:=G1.out;omega⟩⟩
  case round =>
   clear HH n0 n1 w0_ w1_ k0 k1 d1 d2
   obtain ⟨o2,j,v2,rfl,HA,HK,S2,F2,X2,V2⟩:=hrel
   cases gk with
   | zero=>exact absurd HA.out (by simp [mwL])
   | succ k1 =>
    have h:=HA.out
    clear HA
    simp only [mwL] at h
    obtain ⟨n0,n1⟩:=blk1 S2.out.n
    obtain ⟨k0,k1_⟩:=blk1 S2.out.k
    obtain ⟨x0,x1,x2,y0,y1,y2⟩:=blk3 X2.out
    by_cases hj:j < (ws.length:Int)
    ·rw [if_pos hj] at h
     by_cases hij:0≤j∧0≤i∧i < (ns.size:Int)
     ·rw [if_pos hij] at h
      obtain ⟨⟨q1,q2,q3⟩,hq,h⟩:=zo h
      obtain ⟨o3,ho,h⟩:=zo h
      have dj:decide (j < (ws.length:Int))=true:=decide_eq_true hj
      have HW:=zk (fun (W':World)=>impl_WithValue.calls x y z (bt ns i) (rdOf ByteArray.empty ws j) q1 q2 q3 W' hq)
      have HO:=zk (fun (W':World) (hS:St w0 gn gp go gw gf A0 c0 ps ns Aw cw ws W' v2 o2)=>HI.out k1 (by have:=HK.out;omega) (wrap64 (i+1)) q1 q2 q3 o2 o3 W' v2 hS ho)
      have HH:=zk h
      obtain ⟨ad,e1,hx1⟩:=Kd.at_string (Kd.R_reads' S2.out.q).2.2 j hij.1 hj
      cases e1
      have p4:=eq_true hij.2.1
      have q4:=eq_true hij.2.2
      have hx4:=bt_at ns i
      have pj:=eq_true hij.1
      have qj:=eq_true hj
      obtain ⟨i1,hi1⟩:∃ i1,wrap64 (i+1)=i1:=⟨_,rfl⟩
      rw [hi1] at HO
      have hw1:IntKind.i64.wrap (i+1)=i1:=by rw [i64_w];exact hi1
      clear hi1 hij hj h ho hq
      go_wp2
      go_region_held3 (fun w'=>w'.cell? ⟨gf,0,none⟩=some (.func (.func 33) #[] #[.pointer (some ⟨gn,0,none⟩),.pointer (some ⟨gp,0,none⟩),.pointer (some ⟨go,0,none⟩),.pointer (some ⟨gw,0,none⟩),.pointer (some ⟨gf,0,none⟩)])∧w'.cell? ⟨gn,0,none⟩=some (.string ns)∧w'.cell? ⟨gv,0,none⟩=some (.string x)∧w'.cell? ⟨gv,1,none⟩=some (.string y)∧w'.cell? ⟨gv,2,none⟩=some (.string z)) (go_keep) (first
       | (go_at_call 34;(with_reducible refine (HW.out _).mono ?_);rintro e w5 ⟨rfl,hb5⟩;have n2:=zk (show St w0 gn gp go gw gf A0 c0 ps ns (some ad) cw ws w5 v2 o2 by first|exact S2.out.below hb5|exact S2.out.drew.below hb5|exact (S2.out.drewN _).below hb5);have n3:=zk (show Fr go W vo w5 v2 by first|exact F2.out.below hb5|exact (F2.out.below (below_drew (Below.refl _ _))).below hb5|exact (F2.out.below (pw_below_drewN (Below.refl _ _) _)).below hb5);have n4:=zk (show w5.heap[gv]? = _ by first|exact blk_below X2.out hb5|exact blk_below (blk_drew X2.out) hb5|exact blk_below (blk_drewN X2.out _) hb5);clear S2 F2 X2 hb5 hx1;have S2:=n2;have F2:=n3;have X2:=n4;clear n2 n3 n4;clear n0 n1 k0 k1_ x0 x1 x2 y0 y1 y2;obtain ⟨n0,n1⟩:=blk1 S2.out.n;obtain ⟨k0,k1_⟩:=blk1 S2.out.k;obtain ⟨x0,x1,x2,y0,y1,y2⟩:=blk3 X2.out)
       | (go_at_call 33;(with_reducible refine (HO.out _ (by first|exact S2.out|exact S2.out.drew|exact S2.out.drewN _)).mono ?_);rintro e w5 ⟨rfl,v5,S5,F5⟩;have n2:=zk S5;have n3:=zk (show Fr go W vo w5 v5 by first|exact F2.out.trans F5|exact (F2.out.below (below_drew (Below.refl _ _))).trans F5|exact (F2.out.below (pw_below_drewN (Below.refl _ _) _)).trans F5);have n4:=zk (show w5.heap[gv]? = some (.cells #[.string x,.string y,.string z] 32 (0,0)) from (F5.fr gv (blk_lt X2.out) (blk_ne X2.out S2.out.o (by decide)) V2.out).trans X2.out);have n5:=zk (show v5.ownBlock ≠ some gv from fun e=>(F5.n gv e).elim V2.out fun h=>by have:=blk_lt X2.out;exact absurd h (Nat.not_le.2 this));clear S2 F2 X2 V2 S5 F5;have S2:=n2;have F2:=n3;have X2:=n4;have V2:=n5;clear n2 n3 n4 n5;clear n0 n1 k0 k1_ x0 x1 x2 y0 y1 y2;obtain ⟨n0,n1⟩:=blk1 S2.out.n;obtain ⟨k0,k1_⟩:=blk1 S2.out.k;obtain ⟨x0,x1,x2,y0,y1,y2⟩:=blk3 X2.out))
      all_goals
       go_wp2
       go_roundg k1
       case measure=>omega
       case rel=>exact ⟨o3,wrap64 (j+1),_,by first|rfl|(simp;done)|(simp [i64_w];done),HH,⟨by have:=HK.out;omega⟩,⟨by first|exact S2.out|exact S2.out.drew|exact S2.out.drewN _⟩,⟨by first|exact F2.out|exact F2.out.below (below_drew (Below.refl _ _))|exact F2.out.below (pw_below_drewN (Below.refl _ _) _)⟩,⟨by first|exact X2.out|exact blk_drew X2.out|exact blk_drewN X2.out _⟩,V2⟩
     ·rw [if_neg hij] at h
      cases h
    ·rw [if_neg hj] at h
     obtain rfl:=zi h
     have dj:decide (j < (ws.length:Int))=false:=decide_eq_false hj
     clear h hj
     go_wp2
     go_end0
     exact ⟨za42,v2,S2.out,F2.out⟩
end
-- EXT loop.example/g00582/impl.ModelsUpTo rounds making
def impl_ModelsUpTo.f (k:Nat) (l0_0:List S67) (a1:Int):Option (List S32) :=
 (impl_IsValidProblem.f k l0_0).bind fun t=>if t=true then (if a1 < 0 then some [] else ((impl_VarsOfProblem.f k l0_0).bind fun ns=>if ns.size≤1000 then ((impl_BoundOf.f k l0_0).bind fun b=>(impl_WordsUpTo.f k (min a1 b)).bind fun ws=>mwF k l0_0 ns ws 0 (⟨#[]⟩:ByteArray) (⟨#[]⟩:ByteArray) (⟨#[]⟩:ByteArray) []) else none)) else some []
theorem mw_mono:∀ (k:Nat) (ps:List S67) (ns:ByteArray) (ws:List ByteArray) (i:Int) (x y z:ByteArray),(∀ out,LeO (mwF k ps ns ws i x y z out) (mwF (k+1) ps ns ws i x y z out))∧(∀ out j,LeO (mwL k ps ns ws i x y z out j) (mwL (k+1) ps ns ws i x y z out j))
 | 0,_,_,_,_,_,_,_=>⟨fun _ r h=>by simp [mwF] at h,fun _ _ r h=>by simp [mwL] at h⟩
 | k+1,ps,ns,ws,i,x,y,z=>by
  have ih:=mw_mono k ps ns ws
  refine ⟨fun out=>?_,fun out j=>?_⟩
  ·unfold mwF
   exact LeO.ite (LeO.bind (impl_IsModel.mono _ _ _ _ _) fun _=>LeO.refl _) ((ih i x y z).2 out 0)
  ·unfold mwL
   exact LeO.ite (LeO.ite (LeO.bind (LeO.refl _) fun q=>LeO.bind ((ih _ _ _ _).1 _) fun o=>(ih i x y z).2 o _) (LeO.refl _)) (LeO.refl _)
theorem impl_ModelsUpTo.mono (a0:List S67) (a1:Int) (k:Nat):LeO (impl_ModelsUpTo.f k a0 a1) (impl_ModelsUpTo.f (k+1) a0 a1):=by
 unfold impl_ModelsUpTo.f
 exact LeO.bind (impl_IsValidProblem.mono _ _) fun t=>LeO.ite (LeO.ite (LeO.refl _) (LeO.bind (impl_VarsOfProblem.mono _ _) fun ns=>LeO.ite (LeO.bind (impl_BoundOf.mono _ _) fun b=>LeO.bind (impl_WordsUpTo.mono _ _) fun ws=>(mw_mono k _ _ _ _ _ _ _).1 _) (LeO.refl _))) (LeO.refl _)
theorem impl_ModelsUpTo.calls (k:Nat) (A0_0:Option Addr) (c0_0:Nat) (l0_0:List S67) (a1:Int) (r:List S32) (w:World) (hr0_0:Kd.C k67 w A0_0 l0_0.length l0_0) (hc0_0:l0_0.length≤c0_0) (h:impl_ModelsUpTo.f k l0_0 a1=some r) :
  Calls Tryz.prog 9 #[.agg #[.slice A0_0 l0_0.length c0_0],.int .i64 a1] w fun e w'=>∃ v0_:Value,e = .returned (v0_)∧Kd.R k32 32 w' w.heap.size (fun _=>True) v0_ r∧Below w.heap.size w w':=by
 have HB:=zk (Below.refl w.heap.size w)
 have HR:=zk hr0_0
 have HC:=zk hc0_0
 unfold impl_ModelsUpTo.f at h
 obtain ⟨t,ht,h⟩:=zo h
 have HV:=zk (fun (W:World) (hB:Below w.heap.size w W)=>impl_IsValidProblem.calls k A0_0 c0_0 l0_0 t W (Kd.C_below hr0_0 hB) hc0_0 ht)
 have HH:=zk h
 clear ht hr0_0 hc0_0 h
 go_enter Tryz.func9,Tryz.ntmps9
 go_upto_region 1 with (first
  | ((with_reducible refine gate_dst (N:=2) rfl ?_);refine zE (N:=2) (cs:=#[.slice A0_0 l0_0.length c0_0]) (t:=26) ?_;intro gp hgp w3 hbox hb3;have X3:=zk hbox;have B3:=zk (below_step HB.out hb3);have G3:=zk (show w.heap.size≤gp by omega);clear hb3 hbox hgp))
 obtain ⟨y0,g0⟩:=blk1 X3.out
 have h:=HH.out
 clear HH
 cases t with
 | false =>
  obtain rfl:=zi (show some []=some r from h)
  clear h
  go_wp2_with (go_at_call 30;(with_reducible refine (HV.out _ B3.out).mono ?_);rintro e w5 ⟨rfl,hb5⟩;have B5:=zk (below_step B3.out hb5);clear hb5)
  go_ret
  exact ⟨_,za42,Kd.R_nil _ _ _ _ _,B5.out⟩
 | true =>
  rw [if_pos rfl] at h
  by_cases hn:a1 < 0
  ·rw [if_pos hn] at h
   obtain rfl:=zi h
   have dn:decide (a1 < 0)=true:=decide_eq_true hn
   clear h hn
   go_wp2_with (go_at_call 30;(with_reducible refine (HV.out _ B3.out).mono ?_);rintro e w5 ⟨rfl,hb5⟩;have B5:=zk (below_step B3.out hb5);clear hb5)
   go_ret
   exact ⟨_,za42,Kd.R_nil _ _ _ _ _,B5.out⟩
  ·rw [if_neg hn] at h
   have dn:decide (a1 < 0)=false:=decide_eq_false hn
   obtain ⟨ns,hns,h⟩:=zo h
   by_cases hn1:ns.size≤1000
   ·rw [if_pos hn1] at h
    obtain ⟨b,hb,h⟩:=zo h
    obtain ⟨ws,hws,h⟩:=zo h
    have HP:=zk (fun (W:World) (hB:Below w.heap.size w W)=>impl_VarsOfProblem.calls k A0_0 c0_0 l0_0 ns W (Kd.C_below HR.out hB) HC.out hns)
    have HO:=zk (fun (W:World) (hB:Below w.heap.size w W)=>impl_BoundOf.calls k A0_0 c0_0 l0_0 b W (Kd.C_below HR.out hB) HC.out hb)
    have HW:=zk (fun (W:World)=>impl_WordsUpTo.calls k (min a1 b) ws W hws)
    have HH:=zk h
    clear h hns hb hws hn
    go_upto_region 4 with (first
     | (go_at_call 30;(with_reducible refine (HV.out _ B3.out).mono ?_);rintro e w5 ⟨rfl,hb5⟩;have B5:=zk (below_step B3.out hb5);have X5:=zk (blk_below X3.out hb5);clear hb5 y0 g0;obtain ⟨y0,g0⟩:=blk1 X5.out)
     | (go_at_call 31;(with_reducible refine (HP.out _ B5.out).mono ?_);rintro e w6 ⟨rfl,hb6⟩;have B6:=zk (below_step B5.out hb6);have X6:=zk (blk_below X5.out hb6);clear hb6 y0 g0;obtain ⟨y0,g0⟩:=blk1 X6.out))
    obtain ⟨w7,hw7⟩:∃ w7,w6.alloc (.cells #[.string ns] 9)=w7:=⟨_,rfl⟩
    obtain ⟨gn,hgn⟩:∃ gn,w6.heap.size=gn:=⟨_,rfl⟩
    have N7:Aside0 (w7.heap[gn]? = some (.cells #[.string ns] 9 (0,0))):=⟨by rw [← hw7,← hgn];exact blk_new _ _⟩
    have X7:Aside0 (w7.heap[gp]? = some (.cells #[.slice A0_0 l0_0.length c0_0] 26 (0,0))):=⟨by rw [← hw7];exact blk_alloc X6.out _⟩
    have B7:Aside0 (Below w.heap.size w w7):=⟨by rw [← hw7];exact below_alloc B6.out _⟩
    rw [hw7,hgn]
    clear hw7 hgn y0 g0 X3 X5 X6 B5 B6
    obtain ⟨y0,g0⟩:=blk1 X7.out
    go_upto_region 5 with (first
     | (go_at_call 13;(with_reducible refine (HO.out _ B7.out).mono ?_);rintro e w8 ⟨rfl,hb8⟩;have B8:=zk (below_step B7.out hb8);have X8:=zk (blk_below X7.out hb8);have N8:=zk (blk_below N7.out hb8);clear hb8 y0 g0;obtain ⟨y0,g0⟩:=blk1 X8.out)
     | (go_at_call 32;(with_reducible refine (HW.out _).mono ?_);rintro e w9 ⟨v9,rfl,hr9,hb9⟩;obtain ⟨Aw,cw,ew⟩:=Kd.R_slice hr9;subst ew;have Q9:=zk (Kd.R_lower hr9 B8.out.size);have B9:=zk (below_step B8.out hb9);have X9:=zk (blk_below X8.out hb9);have N9:=zk (blk_below N8.out hb9);clear hb9 hr9 y0 g0;obtain ⟨y0,g0⟩:=blk1 X9.out))
    obtain ⟨w10,hw10⟩:∃ w10,w9.alloc (.cells #[.slice Aw ws.length cw] 53)=w10:=⟨_,rfl⟩
    obtain ⟨gw,hgw⟩:∃ gw,w9.heap.size=gw:=⟨_,rfl⟩
    have M10:Aside0 (w10.heap[gw]? = some (.cells #[.slice Aw ws.length cw] 53 (0,0))):=⟨by rw [← hw10,← hgw];exact blk_new _ _⟩
    have X10:Aside0 (w10.heap[gp]? = some (.cells #[.slice A0_0 l0_0.length c0_0] 26 (0,0))):=⟨by rw [← hw10];exact blk_alloc X9.out _⟩
    have N10:Aside0 (w10.heap[gn]? = some (.cells #[.string ns] 9 (0,0))):=⟨by rw [← hw10];exact blk_alloc N9.out _⟩
    have Q10:Aside0 (Kd.R Kd.string 9 w10 w.heap.size (fun _=>True) (.slice Aw ws.length cw) ws):=⟨by rw [← hw10];exact Kd.R_alloc Q9.out _⟩
    have B10:Aside0 (Below w.heap.size w w10):=⟨by rw [← hw10];exact below_alloc B9.out _⟩
    rw [hw10,hgw]
    clear hw10 hgw y0 g0 X7 X8 X9 N7 N8 N9 B7 B8 B9 Q9
    go_upto_region 6 with (first
     | ((with_reducible refine gate_dst (N:=23) rfl ?_);refine Kd.R_lit k32 _ 32 ?hg (N:=23) ?hd (xs:=([]:List S32)) (inner:=[]) (ok:=fun _=>True) (okp:=fun _=>True) ?hr ?hp (fun _ hk=>hk) trivial (Below.refl _ _) (Nat.le_refl _) (by simp) ?_;(case hd=>rfl);(case hg=>rfl);(case hr=>first|(go_simp;done)|(go_simp;rfl));(case hp=>exact (Reps.none _ _));intro v11 w11 ho hb hg_ hnew_;clear hg_ hnew_;obtain ⟨Ao,co,eo⟩:=Kd.R_slice ho;subst eo;have R11:=zk (Kd.R_lower ho B10.out.size);have M11:=zk (blk_below M10.out hb);have X11:=zk (blk_below X10.out hb);have N11:=zk (blk_below N10.out hb);have Q11:=zk (Kd.R_below Q10.out hb);have B11:=zk (below_step B10.out hb);clear hb ho))
    obtain ⟨w12,hw12⟩:∃ w12,w11.alloc (.cells #[.slice Ao 0 co] 29)=w12:=⟨_,rfl⟩
    obtain ⟨go,hgo⟩:∃ go,w11.heap.size=go:=⟨_,rfl⟩
    have O12:Aside0 (w12.heap[go]? = some (.cells #[.slice Ao 0 co] 29 (0,0))):=⟨by rw [← hw12,← hgo];exact blk_new _ _⟩
    have M12:Aside0 (w12.heap[gw]? = some (.cells #[.slice Aw ws.length cw] 53 (0,0))):=⟨by rw [← hw12];exact blk_alloc M11.out _⟩
    have X12:Aside0 (w12.heap[gp]? = some (.cells #[.slice A0_0 l0_0.length c0_0] 26 (0,0))):=⟨by rw [← hw12];exact blk_alloc X11.out _⟩
    have N12:Aside0 (w12.heap[gn]? = some (.cells #[.string ns] 9 (0,0))):=⟨by rw [← hw12];exact blk_alloc N11.out _⟩
    have Q12:Aside0 (Kd.R Kd.string 9 w12 w.heap.size (fun _=>True) (.slice Aw ws.length cw) ws):=⟨by rw [← hw12];exact Kd.R_alloc Q11.out _⟩
    have R12:Aside0 (Kd.R k32 32 w12 w.heap.size (fun _=>True) (.slice Ao 0 co) []):=⟨by rw [← hw12];exact Kd.R_alloc R11.out _⟩
    have B12:Aside0 (Below w.heap.size w w12):=⟨by rw [← hw12];exact below_alloc B11.out _⟩
    have G12:Aside0 (w.heap.size≤go):=⟨by rw [← hgo];exact B11.out.size⟩
    rw [hw12,hgo]
    clear hw12 hgo X10 X11 N10 N11 B10 B11 Q10 Q11 R11 M10 M11
    go_upto_region 8 with (fail)
    obtain ⟨gf,hgf⟩:∃ gf,w12.heap.size=gf:=⟨_,rfl⟩
    rw [hgf]
    obtain ⟨w13,hw13⟩:∃ w13,w12.alloc (.cells #[.func (.func 33) #[] #[.pointer (some ⟨gn,0,none⟩),.pointer (some ⟨gp,0,none⟩),.pointer (some ⟨go,0,none⟩),.pointer (some ⟨gw,0,none⟩),.pointer (some ⟨gf,0,none⟩)]] 55)=w13:=⟨_,rfl⟩
    have S13:Aside0 (St w gn gp go gw gf A0_0 c0_0 l0_0 ns Aw cw ws w13 (.slice Ao 0 co) []):=⟨by
     rw [← hw13]
     exact ⟨blk_alloc N12.out _,blk_alloc X12.out _,blk_alloc O12.out _,blk_alloc M12.out _,by rw [← hgf];exact blk_new _ _,Kd.R_alloc R12.out _,Kd.R_alloc (Kd.R_tight rfl Q12.out) _,below_alloc B12.out _,G12.out⟩⟩
    rw [hw13]
    clear hw13 hgf N12 X12 O12 M12 Q12 R12 B12 G12
    have CW:=zk (walk_calls (w0:=w) (gn:=gn) (gp:=gp) (go:=go) (gw:=gw) (gf:=gf) (Aw:=Aw) (cw:=cw) HR.out HC.out hn1 k 0 _ _ _ [] r w13 (.slice Ao 0 co) S13.out HH.out)
    obtain ⟨k0,k1⟩:=blk1 S13.out.k
    go_upto_region 9 with (go_at_call 33;(with_reducible refine CW.out.mono ?_);rintro e w14 ⟨rfl,v14,S14,F14⟩;obtain ⟨Ap,cp,ep⟩:=Kd.R_slice S14.r;subst ep;have T14:=zk S14;clear S14 F14)
    obtain ⟨o0,o1⟩:=blk1 T14.out.o
    go_wp2
    go_ret
    exact ⟨_,za42,T14.out.r,T14.out.b⟩
   ·rw [if_neg hn1] at h
    cases h
end Go.Proofs.YtffjfdoghofkdaaGreat.Ext
namespace Go.Proofs.YtffjfdoghofkdaaGreat.A
open Go.RowKit YtffjfdoghofkdaaGreat.Ext YtffjfdoghofkdaaGreatW.PrintWords YtffjfdoghofkdaaGreatW.PrintLast YtffjfdoghofkdaaGreatW.PrintMore
attribute [local go_sem] max2_int min2_int max_two min_two max_three min_three max_four min_four
def laws_markText.l0:Nat→Int→ByteArray→Option (ByteArray)
 | 0,_,_=>none
 | k+1,x0,x3=>if x0 > 0 then ((some (([(wrap64 (48+(Int.tmod x0 10))) % 256]:List Int):List Int)).bind fun y60001=>(if (strOfNums y60001).size+x3.size≤9223372036854775807 then (laws_markText.l0 k (wrap64 (Int.tdiv x0 10)) ((strOfNums y60001) ++ x3)) else (none))) else (if 1+x3.size≤9223372036854775807 then (some ((⟨#[109]⟩:ByteArray) ++ x3)) else (none))
def laws_markText.f (k:Nat) (a0:Int):Option (ByteArray):=if a0≤0 then (some (⟨#[109,48]⟩:ByteArray)) else (laws_markText.l0 k a0 (⟨#[]⟩:ByteArray))
theorem laws_markText.mono_l:∀ k,(∀ y0 y1,LeO (laws_markText.l0 k y0 y1) (laws_markText.l0 (k+1) y0 y1))
 | 0=>fun _ _ r h=>by simp [laws_markText.l0] at h
 | k+1=>by
  have ih0:=laws_markText.mono_l k
  ·intro y0 y1
   unfold laws_markText.l0
   repeat' first
   | with_reducible first|exact ih0 _ _|exact LeO.refl _|exact LeO.none _|refine LeO.ite ?_ ?_|refine LeO.bind ?_ (fun _=>?_)
theorem laws_markText.mono:∀ a0 k,LeO (laws_markText.f k a0) (laws_markText.f (k+1) a0):=by
 intro a0 k
 have ih0:=laws_markText.mono_l k
 unfold laws_markText.f
 repeat' first
  | with_reducible first|exact ih0 _ _|exact LeO.refl _|exact LeO.none _|refine LeO.ite ?_ ?_|refine LeO.bind ?_ (fun _=>?_)
theorem laws_markText.calls (k:Nat) (a0:Int) (r:ByteArray) (w:World) (h:laws_markText.f k a0=some r) :
  Calls Tryz.prog 60 #[.int .i64 a0] w fun e w'=>e = .returned (.string r)∧Below w.heap.size w w':=by
 have HB:=zk (Below.refl w.heap.size w)
 have H:(if a0≤0 then (some (⟨#[109,48]⟩:ByteArray)) else (laws_markText.l0 k a0 (⟨#[]⟩:ByteArray)))=some r:=h
 clear h
 by_cases c2:a0≤0
 ·rw [if_pos c2] at H
  have c2b0:decide (a0≤0)=true:=decide_eq_true c2
  clear c2
  obtain rfl:=zi H
  go_enter Tryz.func60,Tryz.ntmps60
  go_wp2
  go_ret
  exact ⟨za6,za3⟩
 ·rw [if_neg c2] at H
  have c2b0:decide (a0≤0)=false:=decide_eq_false c2
  clear c2
  have H':=zk H
  clear H
  go_enter Tryz.func60,Tryz.ntmps60
  go_wp2
  first|go_loopg [0,3] k (fun kq v0 v3 w'=>∃ (x0_1:Int) (x3_1:ByteArray),v0 = .int .i64 x0_1∧v3 = .string x3_1∧Aside0 (laws_markText.l0 kq x0_1 x3_1=some r)∧Aside0 (kq≤k)∧Aside0 (Below w.heap.size w w'))|(simp only [Act.put,zt,zv,zu];go_loopg [0,3] k (fun kq v0 v3 w'=>∃ (x0_1:Int) (x3_1:ByteArray),v0 = .int .i64 x0_1∧v3 = .string x3_1∧Aside0 (laws_markText.l0 kq x0_1 x3_1=some r)∧Aside0 (kq≤k)∧Aside0 (Below w.heap.size w w')))
  case atStart=>exact ⟨(a0),((⟨#[]⟩:ByteArray)),za7,za7,H',⟨Nat.le_refl _⟩,⟨za3⟩⟩
  case round =>
   clear H'
   try clear c2
   try clear c2b0
   obtain ⟨x0_1,x3_1,rfl,rfl,HA,HK1,HB⟩:=hrel
   cases gk with
   | zero=>exact absurd HA.out (by simp [laws_markText.l0])
   | succ k1 =>
    have H:=HA.out
    clear HA
    simp only [laws_markText.l0] at H
    by_cases c3:x0_1 > 0
    rw [if_pos c3] at H
    have c3b0:decide (0 < x0_1)=true:=decide_eq_true c3
    clear c3
    obtain ⟨y60001,hy60001⟩:∃ y_:List Int,y_=(([(wrap64 (48+(Int.tmod x0_1 10))) % 256]:List Int)):=⟨_,rfl⟩
    replace H:(if (strOfNums y60001).size+x3_1.size≤9223372036854775807 then (laws_markText.l0 k1 (wrap64 (Int.tdiv x0_1 10)) ((strOfNums y60001) ++ x3_1)) else (none))=some r:=by first|(rw [hy60001];with_reducible exact H)|(have H2_:=(Option.bind_some _ _).symm.trans H;rw [hy60001];with_reducible exact H2_)|(have H2_:=(Option.bind_some _ _).symm.trans H;with_reducible exact H2_)|with_reducible exact H|(rw [hy60001];exact H)|exact H
    have Ny60001:=zk hy60001
    clear hy60001
    by_cases c4:(strOfNums y60001).size+x3_1.size≤9223372036854775807
    ·rw [if_pos c4] at H
     have c4z:=c4
     try simp at c4z
     try replace c4z:=eq_false (Nat.not_lt.2 c4z)
     have c4b0:=eq_true c4
     have c4b1:decide ((strOfNums y60001).size+x3_1.size≤9223372036854775807)=true:=decide_eq_true c4
     try have c4b2:(9223372036854775807 < (strOfNums y60001).size+x3_1.size)=False:=eq_false (Nat.not_lt.2 c4)
     have H':=zk H
     clear H
     go_wp2_with (first|((with_reducible refine gate_dst (N:=12) rfl ?_);refine Kd.R_lit (Kd.int .u8) _ 5 ?hg (N:=12) ?hd (xs:=([(wrap64 (48+(Int.tmod x0_1 10))) % 256]:List Int)) (inner:=[.int .u8 ((wrap64 (48+(Int.tmod x0_1 10))) % 256)]) (ok:=fun _=>True) (okp:=fun _=>True) ?hr ?hp (fun _ hk=>hk) trivial (Below.refl _ _) (Nat.le_refl _) (by simp) ?_;(case hd=>rfl);(case hg=>rfl);(case hr=>first|(go_simp;done)|(go_simp;rfl));(case hp=>exact (Reps.one (show Kd.M (Kd.int .u8) _ _ _ ((wrap64 (48+(Int.tmod x0_1 10))) % 256) [.int .u8 ((wrap64 (48+(Int.tmod x0_1 10))) % 256)] from rfl) (Reps.none _ _)));intro v60002 w5 ho6 hb hg_ hnew_;clear hg_ hnew_;(first|rw [← Ny60001.out] at ho6|(simp only [Int.reduceToNat] at ho6;rw [← Ny60001.out] at ho6));have n0_:=zk (Kd.R_lower ho6 (below_size za3));have n1_:=zk (below_step za3 hb);clear HB;have HO60003:=n0_;have HB:=n1_;clear n0_ n1_;clear hb ho6;have hcv7:=own_string (P:=Tryz.prog) Tryz.underlying22 Tryz.underlying5 Tryz.underlying9 (Kd.own_of_R HO60003.out)))
     go_roundg k1
     case measure=>have:=HK1.out;omega
     case rel=>exact ⟨(wrap64 (Int.tdiv x0_1 10)),((strOfNums y60001) ++ x3_1),za7,za7,H',⟨za15⟩,⟨za3⟩⟩
    ·rw [if_neg c4] at H
     exact absurd H (by simp)
    rw [if_neg c3] at H
    have c3b0:decide (0 < x0_1)=false:=decide_eq_false c3
    clear c3
    by_cases c8:1+x3_1.size≤9223372036854775807
    ·rw [if_pos c8] at H
     have c8z:=c8
     try simp at c8z
     try replace c8z:=eq_false (Nat.not_lt.2 c8z)
     have c8b0:=eq_true c8
     have c8b1:decide (1+x3_1.size≤9223372036854775807)=true:=decide_eq_true c8
     try have c8b2:(9223372036854775807 < 1+x3_1.size)=False:=eq_false (Nat.not_lt.2 c8)
     obtain rfl:=zi H
     go_wp2
     go_ret
     exact ⟨za6,za3⟩
    ·rw [if_neg c8] at H
     exact absurd H (by simp)
end Go.Proofs.YtffjfdoghofkdaaGreat.A
-- ALSO loop.example/g00582/laws.markText
namespace Go.Proofs.YtffjfdoghofkdaaGreat.Ext
open Go Go.RowKit YtffjfdoghofkdaaGreatW.PrintWords YtffjfdoghofkdaaGreatW.PrintLast YtffjfdoghofkdaaGreat.A
def Same (v u:Value):Prop:=(∃ a b,v = .int .i64 a∧u = .int .i64 b)∨(∃ a b,v = .string a∧u = .string b)∨v=u
theorem Same.trans {v u t:Value} (h:Same v u) (k:Same u t):Same v t:=by
 rcases h with ⟨a,b,rfl,rfl⟩|⟨a,b,rfl,rfl⟩|rfl
 ·rcases k with ⟨c,e,_,rfl⟩|⟨c,e,h,_⟩|rfl
  ·exact .inl ⟨a,e,rfl,rfl⟩
  ·cases h
  ·exact .inl ⟨a,b,rfl,rfl⟩
 ·rcases k with ⟨c,e,h,_⟩|⟨c,e,_,rfl⟩|rfl
  ·cases h
  ·exact .inr (.inl ⟨a,e,rfl,rfl⟩)
  ·exact .inr (.inl ⟨a,b,rfl,rfl⟩)
 ·exact k
theorem Same.int {a:Int} {u:Value} (h:Same (.int .i64 a) u):∃ b,u = .int .i64 b:=by
 rcases h with ⟨_,b,_,rfl⟩|⟨_,_,h,_⟩|rfl
 ·exact ⟨b,rfl⟩
 ·cases h
 ·exact ⟨a,rfl⟩
theorem Same.str {a:ByteArray} {u:Value} (h:Same (.string a) u):∃ b,u = .string b:=by
 rcases h with ⟨_,_,h,_⟩|⟨_,b,_,rfl⟩|rfl
 ·cases h
 ·exact ⟨b,rfl⟩
 ·exact ⟨a,rfl⟩
theorem Same.slc {A:Option Addr} {n c:Nat} {u:Value} (h:Same (.slice A n c) u):u = .slice A n c:=by
 rcases h with ⟨_,_,h,_⟩|⟨_,_,h,_⟩|rfl
 ·cases h
 ·cases h
 ·rfl
structure Mk (lo hi : Nat) (W W' : World) : Prop where
 sz:W.heap.size≤W'.heap.size
 fr:∀ k,k < W.heap.size→¬(lo≤k∧k < hi)→W'.heap[k]? = W.heap[k]?
 bl:∀ (g:Nat) (cs:Array Value) (t:TypeId),W.heap[g]? = some (.cells cs t (0,0))→∃ cs':Array Value,W'.heap[g]? = some (.cells cs' t (0,0))∧∀ (j:Nat) (v:Value),cs[j]? = some v→∃ v',cs'[j]? = some v'∧Same v v'
 lw:∀ (n:Nat) (w0:World),n≤lo→Below n w0 W→n≤W.heap.size→Below n w0 W'
section
variable {lo hi : Nat} {W W1 W2 : World}
theorem Mk.refl (lo hi:Nat) (W:World):Mk lo hi W W:=⟨Nat.le_refl _,fun _ _ _=>rfl,fun _ cs _ h=>⟨cs,h,fun _ v hv=>⟨v,hv,.inr (.inr rfl)⟩⟩,fun _ _ _ h _=>h⟩
theorem Mk.trans (h:Mk lo hi W W1) (k:Mk lo hi W1 W2):Mk lo hi W W2:=by
 refine ⟨Nat.le_trans h.sz k.sz,fun q hq hn=>(k.fr q (Nat.lt_of_lt_of_le hq h.sz) hn).trans (h.fr q hq hn),fun g cs t hg=>?_,fun n w0 hn hb hs=>k.lw n w0 hn (h.lw n w0 hn hb hs) (Nat.le_trans hs h.sz)⟩
 obtain ⟨c1,h1,h2⟩:=h.bl g cs t hg
 obtain ⟨c2,k1,k2⟩:=k.bl g c1 t h1
 refine ⟨c2,k1,fun j v hv=>?_⟩
 obtain ⟨v1,e1,s1⟩:=h2 j v hv
 obtain ⟨v2,e2,s2⟩:=k2 j v1 e1
 exact ⟨v2,e2,s1.trans s2⟩
theorem Mk.below (hb:Below W.heap.size W W1):Mk lo hi W W1 :=
 ⟨hb.size,fun k hk _=>hb.block k hk,fun g cs _ h=>⟨cs,blk_below h hb,fun _ v hv=>⟨v,hv,.inr (.inr rfl)⟩⟩,fun n w0 _ h hs=>⟨hb.os.trans h.os,hb.tape.trans h.tape,hb.output.trans h.output,Nat.le_trans h.size hb.size,fun k hk=>(hb.block k (Nat.lt_of_lt_of_le hk hs)).trans (h.block k hk)⟩⟩
theorem Mk.set {g i:Nat} {cs:Array Value} {t:TypeId} (hg:W.heap[g]? = some (.cells cs t (0,0))) (h1:lo≤g) (h2:g < hi) {v u:Value} (hv:W.cell? ⟨g,i,none⟩=some v) (hs:Same v u):Mk lo hi W (W.setCell ⟨g,i,none⟩ u):=by
 have hlt:i < cs.size:=by
  rw [blk_cell hg] at hv
  exact (Array.getElem?_eq_some_iff.1 hv).1
 refine ⟨?_,fun k _ hn=>?_,fun g' cs' t' hg' => ?_,fun n w0 hn hb _=>hb.setCell (p:=⟨g,i,none⟩) (Nat.le_trans hn h1) u⟩
 ·exact Nat.le_of_eq (by simp)
 ·rw [Below.heap_setCell W ⟨g,i,none⟩ u k (fun e=>hn (by rw [show k=g from e];exact ⟨h1,h2⟩))]
 ·by_cases e:g'=g
  ·subst e
   rw [hg] at hg'
   injection hg' with hg'
   injection hg' with e1 e2 _
   subst e1
   subst e2
   refine ⟨_,blk_set hg i u,fun j x hx=>?_⟩
   by_cases ej:i=j
   ·subst ej
    rw [blk_cell hg] at hv
    rw [hv] at hx
    obtain rfl:=zi hx
    exact ⟨u,by rw [Array.getElem?_setIfInBounds_self,if_pos hlt],hs⟩
   ·exact ⟨x,by rw [Array.getElem?_setIfInBounds_ne ej];exact hx,.inr (.inr rfl)⟩
  ·exact ⟨cs',(Below.heap_setCell W ⟨g,i,none⟩ u g' e).trans hg',fun _ x hx=>⟨x,hx,.inr (.inr rfl)⟩⟩
theorem Mk.cell (h:Mk lo hi W W1) {g i:Nat} {cs:Array Value} {t:TypeId} (hg:W.heap[g]? = some (.cells cs t (0,0))) {v:Value} (hv:W.cell? ⟨g,i,none⟩=some v):∃ v',W1.cell? ⟨g,i,none⟩=some v'∧Same v v':=by
 obtain ⟨c1,h1,h2⟩:=h.bl g cs t hg
 rw [blk_cell hg] at hv
 obtain ⟨v',e,s⟩:=h2 i v hv
 exact ⟨v',(blk_cell h1 i).trans e,s⟩
end
def ShI (lo hi:Nat) (W:World) (v:Value) (m:Nat):Prop:=∃ A c,v = .slice A m c∧∀ n,n < m→∃ g,A=some ⟨g,0,none⟩∧lo≤g∧g < hi∧(∃ cs t,W.heap[g]? = some (.cells cs t (0,0)))∧∃ x,W.cell? ⟨g,n,none⟩=some (.int .i64 x)
def ShR (lo hi:Nat):Nat→World→Value→List S65→Prop
 | 0,_,v,xs=>∃ A c,v = .slice A xs.length c∧xs = []
 | d+1,W,v,xs=>∃ A c,v = .slice A xs.length c∧∀ (n:Nat) (h:n < xs.length),∃ g,A=some ⟨g,0,none⟩∧lo≤g∧g < hi∧(∃ cs t,W.heap[g]? = some (.cells cs t (0,0)))∧(∃ x,W.cell? ⟨g,n * 3,none⟩=some (.int .i64 x))∧(∃ x,W.cell? ⟨g,n * 3+1,none⟩=some (.string x))∧∃ A2 c2,W.cell? ⟨g,n * 3+2,none⟩=some (.slice A2 xs[n].f2.length c2)∧ShR lo hi d W (.slice A2 xs[n].f2.length c2) xs[n].f2
def ShC (lo hi:Nat) (W:World) (v:Value) (xs:List S67) (d:Nat):Prop:=∃ A c,v = .slice A xs.length c∧∀ (n:Nat) (h:n < xs.length),∃ g,A=some ⟨g,0,none⟩∧lo≤g∧g < hi∧(∃ cs t,W.heap[g]? = some (.cells cs t (0,0)))∧(∃ x,W.cell? ⟨g,n * 8,none⟩=some (.int .i64 x))∧(∃ x,W.cell? ⟨g,n * 8+1,none⟩=some (.string x))∧(∃ x,W.cell? ⟨g,n * 8+2,none⟩=some (.string x))∧(∃ x,W.cell? ⟨g,n * 8+3,none⟩=some (.int .i64 x))∧(∃ x,W.cell? ⟨g,n * 8+4,none⟩=some (.string x)) ∧
 (∃ A2 c2,W.cell? ⟨g,n * 8+5,none⟩=some (.slice A2 xs[n].f3.f2.length c2)∧ShR lo hi d W (.slice A2 xs[n].f3.f2.length c2) xs[n].f3.f2)∧(∃ A2 c2,W.cell? ⟨g,n * 8+6,none⟩=some (.slice A2 xs[n].f4.length c2)∧ShI lo hi W (.slice A2 xs[n].f4.length c2) xs[n].f4.length)∧∃ x,W.cell? ⟨g,n * 8+7,none⟩=some (.int .i64 x)
section
variable {lo hi : Nat} {W W1 : World}
theorem mk_int (m:Mk lo hi W W1) {g i:Nat} (hb:∃ cs t,W.heap[g]? = some (.cells cs t (0,0))) (h:∃ x,W.cell? ⟨g,i,none⟩=some (.int .i64 x)):∃ x,W1.cell? ⟨g,i,none⟩=some (.int .i64 x):=by
 obtain ⟨cs,t,hg⟩:=hb
 obtain ⟨x,hx⟩:=h
 obtain ⟨v',e,s⟩:=m.cell hg hx
 obtain ⟨b,rfl⟩:=s.int
 exact ⟨b,e⟩
theorem mk_str (m:Mk lo hi W W1) {g i:Nat} (hb:∃ cs t,W.heap[g]? = some (.cells cs t (0,0))) (h:∃ x,W.cell? ⟨g,i,none⟩=some (.string x)):∃ x,W1.cell? ⟨g,i,none⟩=some (.string x):=by
 obtain ⟨cs,t,hg⟩:=hb
 obtain ⟨x,hx⟩:=h
 obtain ⟨v',e,s⟩:=m.cell hg hx
 obtain ⟨b,rfl⟩:=s.str
 exact ⟨b,e⟩
theorem mk_slc (m:Mk lo hi W W1) {g i:Nat} (hb:∃ cs t,W.heap[g]? = some (.cells cs t (0,0))) {A:Option Addr} {n c:Nat} (h:W.cell? ⟨g,i,none⟩=some (.slice A n c)):W1.cell? ⟨g,i,none⟩=some (.slice A n c):=by
 obtain ⟨cs,t,hg⟩:=hb
 obtain ⟨v',e,s⟩:=m.cell hg h
 obtain rfl:=s.slc
 exact e
theorem mk_blk (m:Mk lo hi W W1) {g:Nat} (hb:∃ cs t,W.heap[g]? = some (.cells cs t (0,0))):∃ cs t,W1.heap[g]? = some (.cells cs t (0,0)):=by
 obtain ⟨cs,t,hg⟩:=hb
 obtain ⟨c1,h1,_⟩:=m.bl g cs t hg
 exact ⟨c1,t,h1⟩
theorem ShI.mk {v:Value} {n:Nat} (h:ShI lo hi W v n) (m:Mk lo hi W W1):ShI lo hi W1 v n:=by
 obtain ⟨A,c,e,h⟩:=h
 refine ⟨A,c,e,fun i hi=>?_⟩
 obtain ⟨g,e1,h1,h2,hb,hx⟩:=h i hi
 exact ⟨g,e1,h1,h2,mk_blk m hb,mk_int m hb hx⟩
theorem ShR.mk:∀ (d:Nat) (v:Value) (xs:List S65),ShR lo hi d W v xs→Mk lo hi W W1→ShR lo hi d W1 v xs
 | 0,_,_,h,_=>h
 | d+1,v,xs,h,m=>by
  obtain ⟨A,c,e,h⟩:=h
  refine ⟨A,c,e,fun i hi=>?_⟩
  obtain ⟨g,e1,h1,h2,hb,hx,hy,A2,c2,hz,hs⟩:=h i hi
  exact ⟨g,e1,h1,h2,mk_blk m hb,mk_int m hb hx,mk_str m hb hy,A2,c2,mk_slc m hb hz,ShR.mk d _ _ hs m⟩
theorem ShC.mk {v:Value} {xs:List S67} {d:Nat} (h:ShC lo hi W v xs d) (m:Mk lo hi W W1):ShC lo hi W1 v xs d:=by
 obtain ⟨A,c,e,h⟩:=h
 refine ⟨A,c,e,fun i hi=>?_⟩
 obtain ⟨g,e1,h1,h2,hb,q0,q1,q2,q3,q4,⟨A5,c5,q5,s5⟩,⟨A6,c6,q6,s6⟩,q7⟩:=h i hi
 exact ⟨g,e1,h1,h2,mk_blk m hb,mk_int m hb q0,mk_str m hb q1,mk_str m hb q2,mk_int m hb q3,mk_str m hb q4,⟨A5,c5,mk_slc m hb q5,ShR.mk d _ _ s5 m⟩,⟨A6,c6,mk_slc m hb q6,s6.mk m⟩,mk_int m hb q7⟩
end
theorem w64n {x:Int} (h : -9223372036854775808≤x) (h':x≤9223372036854775807):wrap64 x=x:=by unfold wrap64;omega
set_option maxHeartbeats 4000000 in
theorem mark_is (lo hi m:Nat) (v:Value) (W:World) (a1:Int) (h:ShI lo hi W v m) (h0:0≤a1) (h1:a1+m≤4611686018427387904) :
  Calls Tryz.prog 89 #[v,.int .i64 a1] W fun e W'=>∃ r:Int,e = .returned (.int .i64 r)∧r=a1+m∧Mk lo hi W W':=by
 have HS:=zk h
 obtain ⟨A,c,rfl,_⟩:=h
 have H0:=zk h0
 have H1:=zk h1
 clear h0 h1
 go_enter Tryz.func89,Tryz.ntmps89
 go_wp2
 go_loopg [1,5] m (fun gk v1 v5 w'=>∃ (n:Nat) (q:Int),v1 = .int .i64 q∧v5 = .int .i64 (n:Int)∧Aside0 (q=a1+n)∧Aside0 (n+gk=m)∧Aside0 (Mk lo hi W w'))
 case atStart=>exact ⟨0,a1,rfl,rfl,⟨by simp⟩,⟨by omega⟩,⟨Mk.refl _ _ _⟩⟩
 case round =>
  obtain ⟨n,q,rfl,rfl,HQ,HN,HM⟩:=hrel
  by_cases hlt:n < m
  ·obtain ⟨A',c',e',hs⟩:=HS.out.mk HM.out
   obtain ⟨g,eA,g1,g2,⟨cs,t,hb⟩,x,hx⟩:=hs n hlt
   injection e' with e1 _ e3
   subst e3
   subst e1
   subst eA
   have hf:=blk_frozen hb n
   have c3b0:decide (n < m)=true:=decide_eq_true hlt
   have c3b1:decide ((n:Int) < (m:Int))=true:=decide_eq_true (by omega)
   have p4:((0:Int)≤(n:Int))=True:=eq_true (by omega)
   have q4:((n:Int) < (m:Int))=True:=eq_true (by omega)
   have q5:(n < m)=True:=eq_true hlt
   have HT:=zk (Mk.set hb g1 g2 hx (u:=.int .i64 q) (.inl ⟨_,_,rfl,rfl⟩))
   obtain ⟨q1,hq1⟩:∃ q1,wrap64 (q+1)=q1:=⟨_,rfl⟩
   have HQ1:Aside0 (q1=a1+((n+1:Nat):Int)):=⟨by rw [← hq1,w64n (by have:=HQ.out;have:=H0.out;omega) (by have:=HQ.out;have:=H1.out;omega)];have:=HQ.out;omega⟩
   obtain ⟨n1,hn1⟩:∃ n1:Int,wrap64 ((n:Int)+1)=n1:=⟨_,rfl⟩
   have HN1:Aside0 (n1=((n+1:Nat):Int)):=⟨by rw [← hn1,w64n (by omega) (by have:=H0.out;have:=H1.out;omega)];omega⟩
   cases gk with
   | zero=>exact absurd HN.out (by omega)
   | succ k1 =>
    clear hs hb hlt
    go_wp2_with ((with_reducible refine gate_store (t:=3) (p:=15) rfl ?_);refine store_event (t:=3) (p:=15) (v:=?vo) (w1:=(wr.setCell ⟨g,n,none⟩ (.int .i64 q))) ?hg ?ho ?hn ?hr ?_;(case ho=>rfl);(case hg=>rfl);(case hn=>rfl);(case hr=>first|(go_simp;done)|(go_simp;rfl));intro w3 hw;have M3:Aside0 (Mk lo hi W w3):=⟨by rw [hw];exact HM.out.trans HT.out⟩;clear hw hx hf)
    go_roundg k1
    case measure=>omega
    case rel=>exact ⟨n+1,q1,rfl,by rw [← HN1.out],HQ1,⟨za17⟩,M3⟩
  ·have c3b0:decide (n < m)=false:=decide_eq_false hlt
   have c3b1:decide ((n:Int) < (m:Int))=false:=decide_eq_false (by omega)
   have HE:Aside0 (q=a1+(m:Int)):=⟨by have:=HQ.out;have:=HN.out;omega⟩
   clear hlt
   go_wp2
   go_ret
   exact ⟨q,za42,HE.out,HM.out⟩
-- WALKS
def cntR:Nat→List S65→Nat
 | 0,_=>0
 | d+1,xs=>(xs.map fun y=>2+cntR d y.f2).sum
def cntC (d:Nat) (xs:List S67):Nat:=(xs.map fun y=>6+cntR d y.f3.f2+y.f4.length).sum
theorem sum_take {α:Type} (f:α→Nat) (xs:List α) (n:Nat) (h:n < xs.length):((xs.take (n+1)).map f).sum=((xs.take n).map f).sum+f xs[n]:=by
 rw [List.take_succ_eq_append_getElem h,List.map_append,List.sum_append]
 simp
theorem sum_le {α:Type} (f:α→Nat) (xs:List α) (n:Nat) (h:n < xs.length):((xs.take n).map f).sum+f xs[n]≤(xs.map f).sum:=by
 rw [← sum_take f xs n h]
 conv=>rhs;rw [← List.take_append_drop (n+1) xs,List.map_append,List.sum_append]
 omega
theorem sum_len {α:Type} (f:α→Nat) (hf:∀ x,1≤f x) (xs:List α):xs.length≤(xs.map f).sum:=by
 induction xs with
 | nil=>simp
 | cons x xs ih=>have:=hf x;simp only [List.map_cons,List.sum_cons,List.length_cons];omega
theorem cntR_succ (d:Nat) (xs:List S65) (n:Nat) (h:n < xs.length):cntR (d+1) (xs.take (n+1))=cntR (d+1) (xs.take n)+(2+cntR d xs[n].f2):=sum_take _ xs n h
theorem cntR_le (d:Nat) (xs:List S65) (n:Nat) (h:n < xs.length):cntR (d+1) (xs.take n)+(2+cntR d xs[n].f2)≤cntR (d+1) xs:=sum_le (fun y:S65=>2+cntR d y.f2) xs n h
theorem cntR_len (d:Nat) (xs:List S65):xs.length≤cntR (d+1) xs:=sum_len _ (fun x=>by omega) xs
theorem cntC_succ (d:Nat) (xs:List S67) (n:Nat) (h:n < xs.length):cntC d (xs.take (n+1))=cntC d (xs.take n)+(6+cntR d xs[n].f3.f2+xs[n].f4.length):=sum_take _ xs n h
theorem cntC_le (d:Nat) (xs:List S67) (n:Nat) (h:n < xs.length):cntC d (xs.take n)+(6+cntR d xs[n].f3.f2+xs[n].f4.length)≤cntC d xs:=sum_le (fun y:S67=>6+cntR d y.f3.f2+y.f4.length) xs n h
theorem cntC_len (d:Nat) (xs:List S67):xs.length≤cntC d xs:=sum_len _ (fun x=>by omega) xs
section
variable {lo hi : Nat} {W : World} {A : Option Addr} {c n : Nat}
theorem shr_val {d:Nat} {v:Value} {xs:List S65} (h:ShR lo hi (d+1) W v xs):∃ A c,v = .slice A xs.length c:=by
 obtain ⟨A,c,e,_⟩:=h
 exact ⟨A,c,e⟩
theorem shr_g {d:Nat} {xs:List S65} (h:ShR lo hi (d+1) W (.slice A xs.length c) xs) (hn:n < xs.length):∃ g,A=some ⟨g,0,none⟩:=by
 obtain ⟨A',c',e,h⟩:=h
 injection e with e1 _ _
 subst e1
 obtain ⟨g,e,_⟩:=h n hn
 exact ⟨g,e⟩
theorem shr_at {d g:Nat} {xs:List S65} (h:ShR lo hi (d+1) W (.slice (some ⟨g,0,none⟩) xs.length c) xs) (hn:n < xs.length):lo≤g∧g < hi∧(∃ cs t,W.heap[g]? = some (.cells cs t (0,0)))∧(∃ x,W.cell? ⟨g,n * 3,none⟩=some (.int .i64 x))∧(∃ x,W.cell? ⟨g,n * 3+1,none⟩=some (.string x))∧∃ A2 c2,W.cell? ⟨g,n * 3+2,none⟩=some (.slice A2 xs[n].f2.length c2)∧ShR lo hi d W (.slice A2 xs[n].f2.length c2) xs[n].f2:=by
 obtain ⟨A',c',e,h⟩:=h
 injection e with e1 _ _
 subst e1
 obtain ⟨g',e,h⟩:=h n hn
 injection e with e
 injection e with e
 subst e
 exact h
theorem shc_val {d:Nat} {v:Value} {xs:List S67} (h:ShC lo hi W v xs d):∃ A c,v = .slice A xs.length c:=by
 obtain ⟨A,c,e,_⟩:=h
 exact ⟨A,c,e⟩
theorem shc_g {d:Nat} {xs:List S67} (h:ShC lo hi W (.slice A xs.length c) xs d) (hn:n < xs.length):∃ g,A=some ⟨g,0,none⟩:=by
 obtain ⟨A',c',e,h⟩:=h
 injection e with e1 _ _
 subst e1
 obtain ⟨g,e,_⟩:=h n hn
 exact ⟨g,e⟩
theorem shc_at {d g:Nat} {xs:List S67} (h:ShC lo hi W (.slice (some ⟨g,0,none⟩) xs.length c) xs d) (hn:n < xs.length):lo≤g∧g < hi∧(∃ cs t,W.heap[g]? = some (.cells cs t (0,0)))∧(∃ x,W.cell? ⟨g,n * 8,none⟩=some (.int .i64 x))∧(∃ x,W.cell? ⟨g,n * 8+1,none⟩=some (.string x))∧(∃ x,W.cell? ⟨g,n * 8+2,none⟩=some (.string x))∧(∃ x,W.cell? ⟨g,n * 8+3,none⟩=some (.int .i64 x))∧(∃ x,W.cell? ⟨g,n * 8+4,none⟩=some (.string x)) ∧
  (∃ A2 c2,W.cell? ⟨g,n * 8+5,none⟩=some (.slice A2 xs[n].f3.f2.length c2)∧ShR lo hi d W (.slice A2 xs[n].f3.f2.length c2) xs[n].f3.f2)∧(∃ A2 c2,W.cell? ⟨g,n * 8+6,none⟩=some (.slice A2 xs[n].f4.length c2)∧ShI lo hi W (.slice A2 xs[n].f4.length c2) xs[n].f4.length)∧∃ x,W.cell? ⟨g,n * 8+7,none⟩=some (.int .i64 x):=by
 obtain ⟨A',c',e,h⟩:=h
 injection e with e1 _ _
 subst e1
 obtain ⟨g',e,h⟩:=h n hn
 injection e with e
 injection e with e
 subst e
 exact h
end
set_option maxHeartbeats 4000000 in
theorem mark_rx (lo hi:Nat) (hT:Aside0 (∀ q:Int,0≤q→q≤4611686018427387904→∃ k t,laws_markText.f k q=some t)):∀ (d:Nat) (xs:List S65) (v:Value) (a1:Int) (W:World),ShR lo hi d W v xs→0≤a1→a1+(cntR d xs:Nat)≤4611686018427387904 →
  Calls Tryz.prog 88 #[v,.int .i64 a1] W fun e W'=>∃ r:Int,e = .returned (.int .i64 r)∧r=a1+(cntR d xs:Nat)∧Mk lo hi W W':=by
 intro d
 induction d with
 | zero =>
  intro xs v a1 W h h0 h1
  obtain ⟨A,c,rfl,rfl⟩:=h
  go_enter Tryz.func88,Tryz.ntmps88
  go_wp2
  go_loopg [1,5] 0 (fun gk v1 v5 w'=>v1 = .int .i64 a1∧v5 = .int .i64 0∧w'=W)
  case atStart=>exact ⟨rfl,rfl,rfl⟩
  case round =>
   obtain ⟨rfl,rfl,rfl⟩:=hrel
   go_wp2
   go_ret
   exact ⟨a1,za42,by simp [cntR],Mk.refl _ _ _⟩
 | succ d ih =>
 intro xs v a1 W h h0 h1
 have HI:=zk ih
 have HB:Aside0 (xs.length≤4611686018427387904):=⟨by have:=cntR_len d xs;omega⟩
 clear ih
 have HS:=zk h
 have H0:=zk h0
 have H1:=zk h1
 obtain ⟨A,c,rfl⟩:=shr_val h
 clear h h0 h1
 go_enter Tryz.func88,Tryz.ntmps88
 go_wp2
 go_loopg [1,5] xs.length (fun gk v1 v5 w'=>∃ (n:Nat) (q0:Int),v1 = .int .i64 q0∧v5 = .int .i64 (n:Int)∧Aside0 (q0=a1+(cntR (d+1) (xs.take n):Nat))∧Aside0 (n+gk=xs.length)∧Aside0 (Mk lo hi W w'))
 case atStart=>exact ⟨0,a1,rfl,rfl,⟨by simp [cntR]⟩,⟨by omega⟩,⟨Mk.refl _ _ _⟩⟩
 case round =>
  obtain ⟨n,q0,rfl,rfl,Q0,HN,M⟩:=hrel
  by_cases hlt:n < xs.length
  ·skip
   have HLT:=zk hlt
   have LE:Aside0 ((cntR (d+1) (xs.take n):Nat)+(2+cntR d xs[n].f2:Nat)≤(cntR (d+1) xs:Nat)):=⟨cntR_le _ xs n hlt⟩
   obtain ⟨g,eA⟩:=shr_g HS.out hlt
   subst eA
   have G1:=zk (shr_at HS.out hlt).1
   have G2:=zk (shr_at HS.out hlt).2.1
   obtain ⟨_,_,⟨cs_,t_,b_⟩,⟨x0_,h0_⟩,⟨x1_,h1_⟩,⟨A2_,c2_,h2_,s2_⟩⟩:=shr_at (ShR.mk _ _ _ HS.out M.out) HLT.out
   have B_:=zk b_
   have f0_:=blk_frozen b_ (n * 3)
   have f1_:=blk_frozen b_ (n * 3+1)
   have f2_:=blk_frozen b_ (n * 3+2)
   have S2_:=zk s2_
   clear s2_
   clear b_
   have c3b0:decide (n < xs.length)=true:=decide_eq_true hlt
   have c3b1:decide ((n:Int) < (xs.length:Int))=true:=decide_eq_true (by omega)
   have p4:((0:Int)≤(n:Int))=True:=eq_true (by omega)
   have q4_:((n:Int) < (xs.length:Int))=True:=eq_true (by omega)
   have q5_:(n < xs.length)=True:=eq_true hlt
   have LO0:Aside0 (0≤q0):=⟨by have:=Q0.out;have:=H0.out;omega⟩
   have UP0:Aside0 (q0=a1+((cntR (d+1) (xs.take n):Nat):Int)+0):=⟨by have:=Q0.out;omega⟩
   obtain ⟨q1,hq1⟩:∃ q1,wrap64 (q0+1)=q1:=⟨_,rfl⟩
   have Q1:Aside0 (q1=q0+1):=⟨by rw [← hq1];exact w64n (by have:=LO0.out;omega) (by have:=UP0.out;have:=H1.out;have:=LE.out;omega)⟩
   have LO1:Aside0 (0≤q1):=⟨by have:=Q1.out;have:=LO0.out;omega⟩
   have UP1:Aside0 (q1=a1+((cntR (d+1) (xs.take n):Nat):Int)+1):=⟨by have:=Q1.out;have:=UP0.out;omega⟩
   obtain ⟨q2,hq2⟩:∃ q2,wrap64 (q1+1)=q2:=⟨_,rfl⟩
   have Q2:Aside0 (q2=q1+1):=⟨by rw [← hq2];exact w64n (by have:=LO1.out;omega) za37⟩
   have LO2:Aside0 (0≤q2):=⟨by have:=Q2.out;have:=LO1.out;omega⟩
   have UP2:Aside0 (q2=a1+((cntR (d+1) (xs.take n):Nat):Int)+2):=⟨by have:=Q2.out;have:=UP1.out;omega⟩
   obtain ⟨n1,hn1⟩:∃ n1:Int,wrap64 ((n:Int)+1)=n1:=⟨_,rfl⟩
   have HN1:Aside0 (n1=((n+1:Nat):Int)):=⟨by rw [← hn1,w64n (by omega) (by have:=HN.out;have:=HB.out;omega)];omega⟩
   obtain ⟨kt1,t1,T1_⟩:=hT.out q1 (by have:=LO1.out;omega) za37
   have T1:=zk T1_
   clear T1_
   cases gk with
   | zero=>exact absurd HN.out (by omega)
   | succ k1 =>
    skip
    go_wp2_with (first
     | ((with_reducible refine gate_store (t:=3) (p:=16) rfl ?_);refine store_event (t:=3) (p:=16) (v:=?vo_16) (w1:=(wr.setCell ⟨g,n * 3,none⟩ (.int .i64 q0))) ?hg ?ho ?hn ?hr ?_;(case ho=>rfl);(case hg=>rfl);(case hn=>rfl);(case hr=>first|(go_simp;done)|(go_simp;rfl));intro w3 hw;have n1:Aside0 (Mk lo hi W w3):=⟨by rw [hw];exact M.out.trans (Mk.set B_.out G1.out G2.out h0_ (.inl ⟨_,_,rfl,rfl⟩))⟩;clear hw;clear M B_ h0_ h1_ h2_ f0_ f1_ f2_ S2_;have M:=n1;clear n1;obtain ⟨_,_,⟨cs_,t_,b_⟩,⟨x0_,h0_⟩,⟨x1_,h1_⟩,⟨A2_,c2_,h2_,s2_⟩⟩:=shr_at (ShR.mk _ _ _ HS.out M.out) HLT.out;have B_:=zk b_;have f0_:=blk_frozen b_ (n * 3);have f1_:=blk_frozen b_ (n * 3+1);have f2_:=blk_frozen b_ (n * 3+2);have S2_:=zk s2_;clear s2_;clear b_)
     | (go_at_call 60;(with_reducible refine (laws_markText.calls _ _ _ _ T1.out).mono ?_);rintro e w4 ⟨rfl,hb⟩;have n1:=zk (M.out.trans (Mk.below hb));clear hb;clear M B_ h0_ h1_ h2_ f0_ f1_ f2_ S2_;have M:=n1;clear n1;obtain ⟨_,_,⟨cs_,t_,b_⟩,⟨x0_,h0_⟩,⟨x1_,h1_⟩,⟨A2_,c2_,h2_,s2_⟩⟩:=shr_at (ShR.mk _ _ _ HS.out M.out) HLT.out;have B_:=zk b_;have f0_:=blk_frozen b_ (n * 3);have f1_:=blk_frozen b_ (n * 3+1);have f2_:=blk_frozen b_ (n * 3+2);have S2_:=zk s2_;clear s2_;clear b_)
     | ((with_reducible refine gate_store (t:=9) (p:=24) rfl ?_);refine store_event (t:=9) (p:=24) (v:=?vo_24) (w1:=(w4.setCell ⟨g,n * 3+1,none⟩ (.string t1))) ?hg ?ho ?hn ?hr ?_;(case ho=>rfl);(case hg=>rfl);(case hn=>rfl);(case hr=>first|(go_simp;done)|(go_simp;rfl));intro w5 hw;have n1:Aside0 (Mk lo hi W w5):=⟨by rw [hw];exact M.out.trans (Mk.set B_.out G1.out G2.out h1_ (.inr (.inl ⟨_,_,rfl,rfl⟩)))⟩;clear hw;clear M B_ h0_ h1_ h2_ f0_ f1_ f2_ S2_;have M:=n1;clear n1;obtain ⟨_,_,⟨cs_,t_,b_⟩,⟨x0_,h0_⟩,⟨x1_,h1_⟩,⟨A2_,c2_,h2_,s2_⟩⟩:=shr_at (ShR.mk _ _ _ HS.out M.out) HLT.out;have B_:=zk b_;have f0_:=blk_frozen b_ (n * 3);have f1_:=blk_frozen b_ (n * 3+1);have f2_:=blk_frozen b_ (n * 3+2);have S2_:=zk s2_;clear s2_;clear b_)
     | (go_at_call 88;(with_reducible refine (HI.out _ _ q2 _ S2_.out (by have:=LO2.out;omega) (by have:=UP2.out;have:=LE.out;have:=H1.out;omega)).mono ?_);rintro e w6 ⟨q3,rfl,hq_,hm⟩;have Qq3:=zk hq_;have n1:=zk (M.out.trans hm);clear hm hq_;clear M B_ h0_ h1_ h2_ f0_ f1_ f2_ S2_;have M:=n1;clear n1;obtain ⟨_,_,⟨cs_,t_,b_⟩,⟨x0_,h0_⟩,⟨x1_,h1_⟩,⟨A2_,c2_,h2_,s2_⟩⟩:=shr_at (ShR.mk _ _ _ HS.out M.out) HLT.out;have B_:=zk b_;have f0_:=blk_frozen b_ (n * 3);have f1_:=blk_frozen b_ (n * 3+1);have f2_:=blk_frozen b_ (n * 3+2);have S2_:=zk s2_;clear s2_;clear b_))
    go_roundg k1
    case measure=>omega
    case rel=>exact ⟨n+1,q3,za7,by first|(rw [← HN1.out,← hn1];done)|(rw [← HN1.out];done),⟨by rw [cntR_succ _ xs n HLT.out];have:=Qq3.out;have:=UP2.out;have:=Q0.out;omega⟩,⟨za17⟩,M⟩
  ·have c3b0:decide (n < xs.length)=false:=decide_eq_false hlt
   have c3b1:decide ((n:Int) < (xs.length:Int))=false:=decide_eq_false (by omega)
   have HE:Aside0 (q0=a1+(cntR (d+1) xs:Nat)):=⟨by have:=Q0.out;rw [List.take_of_length_le (by omega)] at this;exact this⟩
   clear hlt
   go_wp2
   go_ret
   exact ⟨q0,za42,HE.out,M.out⟩
set_option maxHeartbeats 4000000 in
theorem mark_cs (lo hi:Nat) (hT:Aside0 (∀ q:Int,0≤q→q≤4611686018427387904→∃ k t,laws_markText.f k q=some t)) (d:Nat) (xs:List S67) (v:Value) (a1:Int) (W:World) (h:ShC lo hi W v xs d) (h0:0≤a1) (h1:a1+(cntC d xs:Nat)≤4611686018427387904) :
  Calls Tryz.prog 59 #[v,.int .i64 a1] W fun e W'=>∃ r:Int,e = .returned (.int .i64 r)∧r=a1+(cntC d xs:Nat)∧Mk lo hi W W':=by
 have HB:Aside0 (xs.length≤4611686018427387904):=⟨by have:=cntC_len d xs;omega⟩
 have HS:=zk h
 have H0:=zk h0
 have H1:=zk h1
 obtain ⟨A,c,rfl⟩:=shc_val h
 clear h h0 h1
 go_enter Tryz.func59,Tryz.ntmps59
 go_wp2
 go_loopg [1,5] xs.length (fun gk v1 v5 w'=>∃ (n:Nat) (q0:Int),v1 = .int .i64 q0∧v5 = .int .i64 (n:Int)∧Aside0 (q0=a1+(cntC d (xs.take n):Nat))∧Aside0 (n+gk=xs.length)∧Aside0 (Mk lo hi W w'))
 case atStart=>exact ⟨0,a1,rfl,rfl,⟨by simp [cntC]⟩,⟨by omega⟩,⟨Mk.refl _ _ _⟩⟩
 case round =>
  obtain ⟨n,q0,rfl,rfl,Q0,HN,M⟩:=hrel
  by_cases hlt:n < xs.length
  ·skip
   have HLT:=zk hlt
   have LE:Aside0 ((cntC d (xs.take n):Nat)+(6+cntR d xs[n].f3.f2+xs[n].f4.length:Nat)≤(cntC d xs:Nat)):=⟨cntC_le _ xs n hlt⟩
   obtain ⟨g,eA⟩:=shc_g HS.out hlt
   subst eA
   have G1:=zk (shc_at HS.out hlt).1
   have G2:=zk (shc_at HS.out hlt).2.1
   obtain ⟨_,_,⟨cs_,t_,b_⟩,⟨x0_,h0_⟩,⟨x1_,h1_⟩,⟨x2_,h2_⟩,⟨x3_,h3_⟩,⟨x4_,h4_⟩,⟨A5_,c5_,h5_,s5_⟩,⟨A6_,c6_,h6_,s6_⟩,⟨x7_,h7_⟩⟩:=shc_at (HS.out.mk M.out) HLT.out
   have B_:=zk b_
   have f0_:=blk_frozen b_ (n * 8)
   have f1_:=blk_frozen b_ (n * 8+1)
   have f2_:=blk_frozen b_ (n * 8+2)
   have f3_:=blk_frozen b_ (n * 8+3)
   have f4_:=blk_frozen b_ (n * 8+4)
   have f5_:=blk_frozen b_ (n * 8+5)
   have f6_:=blk_frozen b_ (n * 8+6)
   have f7_:=blk_frozen b_ (n * 8+7)
   have S5_:=zk s5_
   clear s5_
   have S6_:=zk s6_
   clear s6_
   clear b_
   have c3b0:decide (n < xs.length)=true:=decide_eq_true hlt
   have c3b1:decide ((n:Int) < (xs.length:Int))=true:=decide_eq_true (by omega)
   have p4:((0:Int)≤(n:Int))=True:=eq_true (by omega)
   have q4_:((n:Int) < (xs.length:Int))=True:=eq_true (by omega)
   have q5_:(n < xs.length)=True:=eq_true hlt
   have LO0:Aside0 (0≤q0):=⟨by have:=Q0.out;have:=H0.out;omega⟩
   have UP0:Aside0 (q0=a1+((cntC d (xs.take n):Nat):Int)+0):=⟨by have:=Q0.out;omega⟩
   obtain ⟨q1,hq1⟩:∃ q1,wrap64 (q0+1)=q1:=⟨_,rfl⟩
   have Q1:Aside0 (q1=q0+1):=⟨by rw [← hq1];exact w64n (by have:=LO0.out;omega) (by have:=UP0.out;have:=H1.out;have:=LE.out;omega)⟩
   have LO1:Aside0 (0≤q1):=⟨by have:=Q1.out;have:=LO0.out;omega⟩
   have UP1:Aside0 (q1=a1+((cntC d (xs.take n):Nat):Int)+1):=⟨by have:=Q1.out;have:=UP0.out;omega⟩
   obtain ⟨q2,hq2⟩:∃ q2,wrap64 (q1+1)=q2:=⟨_,rfl⟩
   have Q2:Aside0 (q2=q1+1):=⟨by rw [← hq2];exact w64n (by have:=LO1.out;omega) za37⟩
   have LO2:Aside0 (0≤q2):=⟨by have:=Q2.out;have:=LO1.out;omega⟩
   have UP2:Aside0 (q2=a1+((cntC d (xs.take n):Nat):Int)+2):=⟨by have:=Q2.out;have:=UP1.out;omega⟩
   obtain ⟨q3,hq3⟩:∃ q3,wrap64 (q2+1)=q3:=⟨_,rfl⟩
   have Q3:Aside0 (q3=q2+1):=⟨by rw [← hq3];exact w64n (by have:=LO2.out;omega) (by have:=UP2.out;have:=H1.out;have:=LE.out;omega)⟩
   have LO3:Aside0 (0≤q3):=⟨by have:=Q3.out;have:=LO2.out;omega⟩
   have UP3:Aside0 (q3=a1+((cntC d (xs.take n):Nat):Int)+3):=⟨by have:=Q3.out;have:=UP2.out;omega⟩
   obtain ⟨q4,hq4⟩:∃ q4,wrap64 (q3+1)=q4:=⟨_,rfl⟩
   have Q4:Aside0 (q4=q3+1):=⟨by rw [← hq4];exact w64n (by have:=LO3.out;omega) (by have:=UP3.out;have:=H1.out;have:=LE.out;omega)⟩
   have LO4:Aside0 (0≤q4):=⟨by have:=Q4.out;have:=LO3.out;omega⟩
   have UP4:Aside0 (q4=a1+((cntC d (xs.take n):Nat):Int)+4):=⟨by have:=Q4.out;have:=UP3.out;omega⟩
   obtain ⟨q5,hq5⟩:∃ q5,wrap64 (q4+1)=q5:=⟨_,rfl⟩
   have Q5:Aside0 (q5=q4+1):=⟨by rw [← hq5];exact w64n (by have:=LO4.out;omega) (by have:=UP4.out;have:=H1.out;have:=LE.out;omega)⟩
   have LO5:Aside0 (0≤q5):=⟨by have:=Q5.out;have:=LO4.out;omega⟩
   have UP5:Aside0 (q5=a1+((cntC d (xs.take n):Nat):Int)+5):=⟨by have:=Q5.out;have:=UP4.out;omega⟩
   obtain ⟨n1,hn1⟩:∃ n1:Int,wrap64 ((n:Int)+1)=n1:=⟨_,rfl⟩
   have HN1:Aside0 (n1=((n+1:Nat):Int)):=⟨by rw [← hn1,w64n (by omega) (by have:=HN.out;have:=HB.out;omega)];omega⟩
   obtain ⟨kt1,t1,T1_⟩:=hT.out q1 (by have:=LO1.out;omega) za37
   have T1:=zk T1_
   clear T1_
   obtain ⟨kt2,t2,T2_⟩:=hT.out q2 (by have:=LO2.out;omega) (by have:=UP2.out;have:=H1.out;have:=LE.out;omega)
   have T2:=zk T2_
   clear T2_
   obtain ⟨kt4,t4,T4_⟩:=hT.out q4 (by have:=LO4.out;omega) (by have:=UP4.out;have:=H1.out;have:=LE.out;omega)
   have T4:=zk T4_
   clear T4_
   cases gk with
   | zero=>exact absurd HN.out (by omega)
   | succ k1 =>
    skip
    go_wp2_with (first
     | ((with_reducible refine gate_store (t:=3) (p:=16) rfl ?_);refine store_event (t:=3) (p:=16) (v:=?vo_16) (w1:=(wr.setCell ⟨g,n * 8,none⟩ (.int .i64 q0))) ?hg ?ho ?hn ?hr ?_;(case ho=>rfl);(case hg=>rfl);(case hn=>rfl);(case hr=>first|(go_simp;done)|(go_simp;rfl));intro w3 hw;have n1:Aside0 (Mk lo hi W w3):=⟨by rw [hw];exact M.out.trans (Mk.set B_.out G1.out G2.out h0_ (.inl ⟨_,_,rfl,rfl⟩))⟩;clear hw;clear M B_ h0_ h1_ h2_ h3_ h4_ h5_ h6_ h7_ f0_ f1_ f2_ f3_ f4_ f5_ f6_ f7_ S5_ S6_;have M:=n1;clear n1;obtain ⟨_,_,⟨cs_,t_,b_⟩,⟨x0_,h0_⟩,⟨x1_,h1_⟩,⟨x2_,h2_⟩,⟨x3_,h3_⟩,⟨x4_,h4_⟩,⟨A5_,c5_,h5_,s5_⟩,⟨A6_,c6_,h6_,s6_⟩,⟨x7_,h7_⟩⟩:=shc_at (HS.out.mk M.out) HLT.out;have B_:=zk b_;have f0_:=blk_frozen b_ (n * 8);have f1_:=blk_frozen b_ (n * 8+1);have f2_:=blk_frozen b_ (n * 8+2);have f3_:=blk_frozen b_ (n * 8+3);have f4_:=blk_frozen b_ (n * 8+4);have f5_:=blk_frozen b_ (n * 8+5);have f6_:=blk_frozen b_ (n * 8+6);have f7_:=blk_frozen b_ (n * 8+7);have S5_:=zk s5_;clear s5_;have S6_:=zk s6_;clear s6_;clear b_)
     | (go_at_call 60;(with_reducible refine (laws_markText.calls _ _ _ _ T1.out).mono ?_);rintro e w4 ⟨rfl,hb⟩;have n1:=zk (M.out.trans (Mk.below hb));clear hb;clear M B_ h0_ h1_ h2_ h3_ h4_ h5_ h6_ h7_ f0_ f1_ f2_ f3_ f4_ f5_ f6_ f7_ S5_ S6_;have M:=n1;clear n1;obtain ⟨_,_,⟨cs_,t_,b_⟩,⟨x0_,h0_⟩,⟨x1_,h1_⟩,⟨x2_,h2_⟩,⟨x3_,h3_⟩,⟨x4_,h4_⟩,⟨A5_,c5_,h5_,s5_⟩,⟨A6_,c6_,h6_,s6_⟩,⟨x7_,h7_⟩⟩:=shc_at (HS.out.mk M.out) HLT.out;have B_:=zk b_;have f0_:=blk_frozen b_ (n * 8);have f1_:=blk_frozen b_ (n * 8+1);have f2_:=blk_frozen b_ (n * 8+2);have f3_:=blk_frozen b_ (n * 8+3);have f4_:=blk_frozen b_ (n * 8+4);have f5_:=blk_frozen b_ (n * 8+5);have f6_:=blk_frozen b_ (n * 8+6);have f7_:=blk_frozen b_ (n * 8+7);have S5_:=zk s5_;clear s5_;have S6_:=zk s6_;clear s6_;clear b_)
     | ((with_reducible refine gate_store (t:=9) (p:=24) rfl ?_);refine store_event (t:=9) (p:=24) (v:=?vo_24) (w1:=(w4.setCell ⟨g,n * 8+1,none⟩ (.string t1))) ?hg ?ho ?hn ?hr ?_;(case ho=>rfl);(case hg=>rfl);(case hn=>rfl);(case hr=>first|(go_simp;done)|(go_simp;rfl));intro w5 hw;have n1:Aside0 (Mk lo hi W w5):=⟨by rw [hw];exact M.out.trans (Mk.set B_.out G1.out G2.out h1_ (.inr (.inl ⟨_,_,rfl,rfl⟩)))⟩;clear hw;clear M B_ h0_ h1_ h2_ h3_ h4_ h5_ h6_ h7_ f0_ f1_ f2_ f3_ f4_ f5_ f6_ f7_ S5_ S6_;have M:=n1;clear n1;obtain ⟨_,_,⟨cs_,t_,b_⟩,⟨x0_,h0_⟩,⟨x1_,h1_⟩,⟨x2_,h2_⟩,⟨x3_,h3_⟩,⟨x4_,h4_⟩,⟨A5_,c5_,h5_,s5_⟩,⟨A6_,c6_,h6_,s6_⟩,⟨x7_,h7_⟩⟩:=shc_at (HS.out.mk M.out) HLT.out;have B_:=zk b_;have f0_:=blk_frozen b_ (n * 8);have f1_:=blk_frozen b_ (n * 8+1);have f2_:=blk_frozen b_ (n * 8+2);have f3_:=blk_frozen b_ (n * 8+3);have f4_:=blk_frozen b_ (n * 8+4);have f5_:=blk_frozen b_ (n * 8+5);have f6_:=blk_frozen b_ (n * 8+6);have f7_:=blk_frozen b_ (n * 8+7);have S5_:=zk s5_;clear s5_;have S6_:=zk s6_;clear s6_;clear b_)
     | (go_at_call 60;(with_reducible refine (laws_markText.calls _ _ _ _ T2.out).mono ?_);rintro e w6 ⟨rfl,hb⟩;have n1:=zk (M.out.trans (Mk.below hb));clear hb;clear M B_ h0_ h1_ h2_ h3_ h4_ h5_ h6_ h7_ f0_ f1_ f2_ f3_ f4_ f5_ f6_ f7_ S5_ S6_;have M:=n1;clear n1;obtain ⟨_,_,⟨cs_,t_,b_⟩,⟨x0_,h0_⟩,⟨x1_,h1_⟩,⟨x2_,h2_⟩,⟨x3_,h3_⟩,⟨x4_,h4_⟩,⟨A5_,c5_,h5_,s5_⟩,⟨A6_,c6_,h6_,s6_⟩,⟨x7_,h7_⟩⟩:=shc_at (HS.out.mk M.out) HLT.out;have B_:=zk b_;have f0_:=blk_frozen b_ (n * 8);have f1_:=blk_frozen b_ (n * 8+1);have f2_:=blk_frozen b_ (n * 8+2);have f3_:=blk_frozen b_ (n * 8+3);have f4_:=blk_frozen b_ (n * 8+4);have f5_:=blk_frozen b_ (n * 8+5);have f6_:=blk_frozen b_ (n * 8+6);have f7_:=blk_frozen b_ (n * 8+7);have S5_:=zk s5_;clear s5_;have S6_:=zk s6_;clear s6_;clear b_)
     | ((with_reducible refine gate_store (t:=9) (p:=32) rfl ?_);refine store_event (t:=9) (p:=32) (v:=?vo_32) (w1:=(w6.setCell ⟨g,n * 8+2,none⟩ (.string t2))) ?hg ?ho ?hn ?hr ?_;(case ho=>rfl);(case hg=>rfl);(case hn=>rfl);(case hr=>first|(go_simp;done)|(go_simp;rfl));intro w7 hw;have n1:Aside0 (Mk lo hi W w7):=⟨by rw [hw];exact M.out.trans (Mk.set B_.out G1.out G2.out h2_ (.inr (.inl ⟨_,_,rfl,rfl⟩)))⟩;clear hw;clear M B_ h0_ h1_ h2_ h3_ h4_ h5_ h6_ h7_ f0_ f1_ f2_ f3_ f4_ f5_ f6_ f7_ S5_ S6_;have M:=n1;clear n1;obtain ⟨_,_,⟨cs_,t_,b_⟩,⟨x0_,h0_⟩,⟨x1_,h1_⟩,⟨x2_,h2_⟩,⟨x3_,h3_⟩,⟨x4_,h4_⟩,⟨A5_,c5_,h5_,s5_⟩,⟨A6_,c6_,h6_,s6_⟩,⟨x7_,h7_⟩⟩:=shc_at (HS.out.mk M.out) HLT.out;have B_:=zk b_;have f0_:=blk_frozen b_ (n * 8);have f1_:=blk_frozen b_ (n * 8+1);have f2_:=blk_frozen b_ (n * 8+2);have f3_:=blk_frozen b_ (n * 8+3);have f4_:=blk_frozen b_ (n * 8+4);have f5_:=blk_frozen b_ (n * 8+5);have f6_:=blk_frozen b_ (n * 8+6);have f7_:=blk_frozen b_ (n * 8+7);have S5_:=zk s5_;clear s5_;have S6_:=zk s6_;clear s6_;clear b_)
     | ((with_reducible refine gate_store (t:=3) (p:=40) rfl ?_);refine store_event (t:=3) (p:=40) (v:=?vo_40) (w1:=(w7.setCell ⟨g,n * 8+3,none⟩ (.int .i64 q3))) ?hg ?ho ?hn ?hr ?_;(case ho=>rfl);(case hg=>rfl);(case hn=>rfl);(case hr=>first|(go_simp;done)|(go_simp;rfl));intro w8 hw;have n1:Aside0 (Mk lo hi W w8):=⟨by rw [hw];exact M.out.trans (Mk.set B_.out G1.out G2.out h3_ (.inl ⟨_,_,rfl,rfl⟩))⟩;clear hw;clear M B_ h0_ h1_ h2_ h3_ h4_ h5_ h6_ h7_ f0_ f1_ f2_ f3_ f4_ f5_ f6_ f7_ S5_ S6_;have M:=n1;clear n1;obtain ⟨_,_,⟨cs_,t_,b_⟩,⟨x0_,h0_⟩,⟨x1_,h1_⟩,⟨x2_,h2_⟩,⟨x3_,h3_⟩,⟨x4_,h4_⟩,⟨A5_,c5_,h5_,s5_⟩,⟨A6_,c6_,h6_,s6_⟩,⟨x7_,h7_⟩⟩:=shc_at (HS.out.mk M.out) HLT.out;have B_:=zk b_;have f0_:=blk_frozen b_ (n * 8);have f1_:=blk_frozen b_ (n * 8+1);have f2_:=blk_frozen b_ (n * 8+2);have f3_:=blk_frozen b_ (n * 8+3);have f4_:=blk_frozen b_ (n * 8+4);have f5_:=blk_frozen b_ (n * 8+5);have f6_:=blk_frozen b_ (n * 8+6);have f7_:=blk_frozen b_ (n * 8+7);have S5_:=zk s5_;clear s5_;have S6_:=zk s6_;clear s6_;clear b_)
     | (go_at_call 60;(with_reducible refine (laws_markText.calls _ _ _ _ T4.out).mono ?_);rintro e w9 ⟨rfl,hb⟩;have n1:=zk (M.out.trans (Mk.below hb));clear hb;clear M B_ h0_ h1_ h2_ h3_ h4_ h5_ h6_ h7_ f0_ f1_ f2_ f3_ f4_ f5_ f6_ f7_ S5_ S6_;have M:=n1;clear n1;obtain ⟨_,_,⟨cs_,t_,b_⟩,⟨x0_,h0_⟩,⟨x1_,h1_⟩,⟨x2_,h2_⟩,⟨x3_,h3_⟩,⟨x4_,h4_⟩,⟨A5_,c5_,h5_,s5_⟩,⟨A6_,c6_,h6_,s6_⟩,⟨x7_,h7_⟩⟩:=shc_at (HS.out.mk M.out) HLT.out;have B_:=zk b_;have f0_:=blk_frozen b_ (n * 8);have f1_:=blk_frozen b_ (n * 8+1);have f2_:=blk_frozen b_ (n * 8+2);have f3_:=blk_frozen b_ (n * 8+3);have f4_:=blk_frozen b_ (n * 8+4);have f5_:=blk_frozen b_ (n * 8+5);have f6_:=blk_frozen b_ (n * 8+6);have f7_:=blk_frozen b_ (n * 8+7);have S5_:=zk s5_;clear s5_;have S6_:=zk s6_;clear s6_;clear b_)
     | ((with_reducible refine gate_store (t:=9) (p:=49) rfl ?_);refine store_event (t:=9) (p:=49) (v:=?vo_49) (w1:=(w9.setCell ⟨g,n * 8+4,none⟩ (.string t4))) ?hg ?ho ?hn ?hr ?_;(case ho=>rfl);(case hg=>rfl);(case hn=>rfl);(case hr=>first|(go_simp;done)|(go_simp;rfl));intro w10 hw;have n1:Aside0 (Mk lo hi W w10):=⟨by rw [hw];exact M.out.trans (Mk.set B_.out G1.out G2.out h4_ (.inr (.inl ⟨_,_,rfl,rfl⟩)))⟩;clear hw;clear M B_ h0_ h1_ h2_ h3_ h4_ h5_ h6_ h7_ f0_ f1_ f2_ f3_ f4_ f5_ f6_ f7_ S5_ S6_;have M:=n1;clear n1;obtain ⟨_,_,⟨cs_,t_,b_⟩,⟨x0_,h0_⟩,⟨x1_,h1_⟩,⟨x2_,h2_⟩,⟨x3_,h3_⟩,⟨x4_,h4_⟩,⟨A5_,c5_,h5_,s5_⟩,⟨A6_,c6_,h6_,s6_⟩,⟨x7_,h7_⟩⟩:=shc_at (HS.out.mk M.out) HLT.out;have B_:=zk b_;have f0_:=blk_frozen b_ (n * 8);have f1_:=blk_frozen b_ (n * 8+1);have f2_:=blk_frozen b_ (n * 8+2);have f3_:=blk_frozen b_ (n * 8+3);have f4_:=blk_frozen b_ (n * 8+4);have f5_:=blk_frozen b_ (n * 8+5);have f6_:=blk_frozen b_ (n * 8+6);have f7_:=blk_frozen b_ (n * 8+7);have S5_:=zk s5_;clear s5_;have S6_:=zk s6_;clear s6_;clear b_)
     | (go_at_call 88;(with_reducible refine (mark_rx lo hi hT _ _ _ q5 _ S5_.out (by have:=LO5.out;omega) (by have:=UP5.out;have:=LE.out;have:=H1.out;omega)).mono ?_);rintro e w11 ⟨q6,rfl,hq_,hm⟩;have Qq6:=zk hq_;have n1:=zk (M.out.trans hm);clear hm hq_;clear M B_ h0_ h1_ h2_ h3_ h4_ h5_ h6_ h7_ f0_ f1_ f2_ f3_ f4_ f5_ f6_ f7_ S5_ S6_;have M:=n1;clear n1;obtain ⟨_,_,⟨cs_,t_,b_⟩,⟨x0_,h0_⟩,⟨x1_,h1_⟩,⟨x2_,h2_⟩,⟨x3_,h3_⟩,⟨x4_,h4_⟩,⟨A5_,c5_,h5_,s5_⟩,⟨A6_,c6_,h6_,s6_⟩,⟨x7_,h7_⟩⟩:=shc_at (HS.out.mk M.out) HLT.out;have B_:=zk b_;have f0_:=blk_frozen b_ (n * 8);have f1_:=blk_frozen b_ (n * 8+1);have f2_:=blk_frozen b_ (n * 8+2);have f3_:=blk_frozen b_ (n * 8+3);have f4_:=blk_frozen b_ (n * 8+4);have f5_:=blk_frozen b_ (n * 8+5);have f6_:=blk_frozen b_ (n * 8+6);have f7_:=blk_frozen b_ (n * 8+7);have S5_:=zk s5_;clear s5_;have S6_:=zk s6_;clear s6_;clear b_;have LO6:Aside0 (0≤q6):=⟨by have:=Qq6.out;have:=LO5.out;omega⟩)
     | (go_at_call 89;(with_reducible refine (mark_is lo hi _ _ _ q6 S6_.out (by have:=LO6.out;omega) (by have:=Qq6.out;have:=UP5.out;have:=LE.out;have:=H1.out;omega)).mono ?_);rintro e w12 ⟨q7,rfl,hq_,hm⟩;have Qq7:=zk hq_;have n1:=zk (M.out.trans hm);clear hm hq_;clear M B_ h0_ h1_ h2_ h3_ h4_ h5_ h6_ h7_ f0_ f1_ f2_ f3_ f4_ f5_ f6_ f7_ S5_ S6_;have M:=n1;clear n1;obtain ⟨_,_,⟨cs_,t_,b_⟩,⟨x0_,h0_⟩,⟨x1_,h1_⟩,⟨x2_,h2_⟩,⟨x3_,h3_⟩,⟨x4_,h4_⟩,⟨A5_,c5_,h5_,s5_⟩,⟨A6_,c6_,h6_,s6_⟩,⟨x7_,h7_⟩⟩:=shc_at (HS.out.mk M.out) HLT.out;have B_:=zk b_;have f0_:=blk_frozen b_ (n * 8);have f1_:=blk_frozen b_ (n * 8+1);have f2_:=blk_frozen b_ (n * 8+2);have f3_:=blk_frozen b_ (n * 8+3);have f4_:=blk_frozen b_ (n * 8+4);have f5_:=blk_frozen b_ (n * 8+5);have f6_:=blk_frozen b_ (n * 8+6);have f7_:=blk_frozen b_ (n * 8+7);have S5_:=zk s5_;clear s5_;have S6_:=zk s6_;clear s6_;clear b_;obtain ⟨q8,hq8⟩:∃ q8,wrap64 (q7+1)=q8:=⟨_,rfl⟩;have Q8:Aside0 (q8=q7+1):=⟨by rw [← hq8];exact w64n (by have:=LO6.out;have:=Qq7.out;omega) (by have:=Qq6.out;have:=Qq7.out;have:=UP5.out;have:=LE.out;have:=H1.out;omega)⟩)
     | ((with_reducible refine gate_store (t:=3) (p:=71) rfl ?_);refine store_event (t:=3) (p:=71) (v:=?vo_71) (w1:=(w12.setCell ⟨g,n * 8+7,none⟩ (.int .i64 q7))) ?hg ?ho ?hn ?hr ?_;(case ho=>rfl);(case hg=>rfl);(case hn=>rfl);(case hr=>first|(go_simp;done)|(go_simp;rfl));intro w13 hw;have n1:Aside0 (Mk lo hi W w13):=⟨by rw [hw];exact M.out.trans (Mk.set B_.out G1.out G2.out h7_ (.inl ⟨_,_,rfl,rfl⟩))⟩;clear hw;clear M B_ h0_ h1_ h2_ h3_ h4_ h5_ h6_ h7_ f0_ f1_ f2_ f3_ f4_ f5_ f6_ f7_ S5_ S6_;have M:=n1;clear n1;obtain ⟨_,_,⟨cs_,t_,b_⟩,⟨x0_,h0_⟩,⟨x1_,h1_⟩,⟨x2_,h2_⟩,⟨x3_,h3_⟩,⟨x4_,h4_⟩,⟨A5_,c5_,h5_,s5_⟩,⟨A6_,c6_,h6_,s6_⟩,⟨x7_,h7_⟩⟩:=shc_at (HS.out.mk M.out) HLT.out;have B_:=zk b_;have f0_:=blk_frozen b_ (n * 8);have f1_:=blk_frozen b_ (n * 8+1);have f2_:=blk_frozen b_ (n * 8+2);have f3_:=blk_frozen b_ (n * 8+3);have f4_:=blk_frozen b_ (n * 8+4);have f5_:=blk_frozen b_ (n * 8+5);have f6_:=blk_frozen b_ (n * 8+6);have f7_:=blk_frozen b_ (n * 8+7);have S5_:=zk s5_;clear s5_;have S6_:=zk s6_;clear s6_;clear b_))
    go_roundg k1
    case measure=>omega
    case rel=>exact ⟨n+1,q8,za7,by first|(rw [← HN1.out,← hn1];done)|(rw [← HN1.out];done),⟨by rw [cntC_succ _ xs n HLT.out];have:=Q8.out;have:=Qq7.out;have:=Qq6.out;have:=UP5.out;have:=Q0.out;omega⟩,⟨za17⟩,M⟩
  ·have c3b0:decide (n < xs.length)=false:=decide_eq_false hlt
   have c3b1:decide ((n:Int) < (xs.length:Int))=false:=decide_eq_false (by omega)
   have HE:Aside0 (q0=a1+(cntC d xs:Nat)):=⟨by have:=Q0.out;rw [List.take_of_length_le (by omega)] at this;exact this⟩
   clear hlt
   go_wp2
   go_ret
   exact ⟨q0,za42,HE.out,M.out⟩
set_option maxHeartbeats 1000000 in
theorem mark_problem (lo hi:Nat) (hT:Aside0 (∀ q:Int,0≤q→q≤4611686018427387904→∃ k t,laws_markText.f k q=some t)) (d:Nat) (xs:List S67) (v:Value) (a1:Int) (W:World) (hhi:hi≤W.heap.size) (h:ShC lo hi W v xs d) (h0:0≤a1) (h1:a1+(cntC d xs:Nat)≤4611686018427387904) :
  Calls Tryz.prog 26 #[.agg #[v],.int .i64 a1] W fun e W'=>∃ r:Int,e = .returned (.int .i64 r)∧r=a1+(cntC d xs:Nat)∧Mk lo hi W W':=by
 have HS:=zk h
 have H0:=zk h0
 have H1:=zk h1
 obtain ⟨A,c,rfl⟩:=shc_val h
 clear h h0 h1
 go_enter Tryz.func26,Tryz.ntmps26
 go_wp2_with (first
  | ((with_reducible refine gate_dst (N:=2) rfl ?_);refine zE (N:=2) (cs:=#[.slice A xs.length c]) (t:=26) ?_;intro gr hgr w3 hbox hb3;have M3:Aside0 (Mk lo hi W w3):=⟨Mk.below hb3⟩;obtain ⟨y0,g0⟩:=blk1 hbox;clear hb3 hbox hgr)
  | (go_at_call 59;(with_reducible refine (mark_cs lo hi hT d xs _ a1 _ (HS.out.mk M3.out) H0.out H1.out).mono ?_);rintro e w4 ⟨r,rfl,hr,hm⟩;have M4:Aside0 (Mk lo hi W w4):=⟨M3.out.trans hm⟩;have HR:=zk hr;clear hr hm))
 go_ret
 exact ⟨r,za42,HR.out,M4.out⟩
def htB:Nat→S65→Bool
 | 0,_=>false
 | d+1,x=>x.f2.all (htB d)
theorem ShR_of_R {lo hi:Nat} {W:World} (hhi:W.heap.size≤hi):∀ (d:Nat) (xs:List S65) (v:Value) (ok:Nat→Prop),xs.all (htB d)=true→Kd.R k65 65 W lo ok v xs→ShR lo hi d W v xs:=by
 intro d
 induction d with
 | zero =>
  intro xs v ok hh hR
  obtain ⟨A,c,e⟩:=Kd.R_slice hR
  cases xs with
  | nil=>exact ⟨A,c,e,rfl⟩
  | cons x xs=>simp [htB] at hh
 | succ d ih =>
  intro xs v ok hh hR
  obtain ⟨A,c,e⟩:=Kd.R_slice hR
  refine ⟨A,c,e,fun n hn=>?_⟩
  obtain ⟨g,cap,e2,g1,g2,cells,hc⟩:=Kd.R_form hR (by omega)
  subst e2
  injection e with e3 _ e4
  obtain ⟨cs,hl,hM,hcc,_⟩:=Kd.R_elem hR z65 (n:Int) (by omega) (by omega)
  rw [Int.toNat_natCast] at hM hcc
  have ex:xs.getD n z65=xs[n]:=by simp [hn]
  rw [ex] at hM
  obtain ⟨v2,rfl,hR2⟩:=k65_openM hM
  obtain ⟨A2,c2,e5⟩:=Kd.R_slice hR2
  subst e5
  have hx:xs[n].f2.all (htB d)=true:=List.all_eq_true.1 hh _ (List.getElem_mem hn)
  exact ⟨g,e3.symm,g1,Nat.lt_of_lt_of_le g2 hhi,⟨cells,_,hc⟩,⟨_,hcc 0 _ rfl⟩,⟨_,hcc 1 _ rfl⟩,A2,c2,hcc 2 _ rfl,ih _ _ _ hx hR2⟩
theorem ShI_of_R {lo hi:Nat} {W:World} (hhi:W.heap.size≤hi) (xs:List Int) (v:Value) (ok:Nat→Prop) (hR:Kd.R (Kd.int .i64) 3 W lo ok v xs):ShI lo hi W v xs.length:=by
 obtain ⟨A,c,e⟩:=Kd.R_slice hR
 refine ⟨A,c,e,fun n hn=>?_⟩
 obtain ⟨g,cap,e2,g1,g2,cells,hc⟩:=Kd.R_form hR (by omega)
 subst e2
 injection e with e3 _ e4
 obtain ⟨h1,h2⟩:=Kd.R_celln 0 hR (n:Int) (by omega) (by omega)
 exact ⟨g,e3.symm,g1,Nat.lt_of_lt_of_le g2 hhi,⟨cells,_,hc⟩,_,h1⟩
theorem ShC_of_R {lo hi:Nat} {W:World} (hhi:W.heap.size≤hi) (d:Nat) (xs:List S67) (v:Value) (ok:Nat→Prop) (hh:(xs.all fun y=>y.f3.f2.all (htB d))=true) (hR:Kd.R k67 67 W lo ok v xs):ShC lo hi W v xs d:=by
 obtain ⟨A,c,e⟩:=Kd.R_slice hR
 refine ⟨A,c,e,fun n hn=>?_⟩
 obtain ⟨g,cap,e2,g1,g2,cells,hc⟩:=Kd.R_form hR (by omega)
 subst e2
 injection e with e3 _ e4
 obtain ⟨cs,hl,hM,hcc,_⟩:=Kd.R_elem hR z67 (n:Int) (by omega) (by omega)
 rw [Int.toNat_natCast] at hM hcc
 have ex:xs.getD n z67=xs[n]:=by simp [hn]
 rw [ex] at hM
 obtain ⟨v5,v6,rfl,hR5,hR6⟩:=k67_openM hM
 obtain ⟨A5,c5,e5⟩:=Kd.R_slice hR5
 subst e5
 obtain ⟨A6,c6,e6⟩:=Kd.R_slice hR6
 subst e6
 have hx:xs[n].f3.f2.all (htB d)=true:=List.all_eq_true.1 hh _ (List.getElem_mem hn)
 exact ⟨g,e3.symm,g1,Nat.lt_of_lt_of_le g2 hhi,⟨cells,_,hc⟩,⟨_,hcc 0 _ rfl⟩,⟨_,hcc 1 _ rfl⟩,⟨_,hcc 2 _ rfl⟩,⟨_,hcc 3 _ rfl⟩,⟨_,hcc 4 _ rfl⟩,⟨A5,c5,hcc 5 _ rfl,ShR_of_R hhi d _ _ _ hx hR5⟩,⟨A6,c6,hcc 6 _ rfl,ShI_of_R hhi _ _ _ hR6⟩,⟨_,hcc 7 _ rfl⟩⟩
theorem markText_all (q:Int) (h0:0≤q) (h1:q≤4611686018427387904):∃ k t,laws_markText.f k q=some t:=by
 have hh:∀ (m:Nat) (x:Int) (acc:ByteArray),0≤x→x≤m→acc.size+x≤4611686018427387904→∃ k t,laws_markText.l0 k x acc=some t:=by
  intro m
  induction m with
  | zero =>
   intro x acc h0 h1 h2
   have e109:(⟨#[109]⟩:ByteArray).size=1:=rfl
   exact ⟨1,(⟨#[109]⟩:ByteArray) ++ acc,by simp only [laws_markText.l0];rw [if_neg (by omega),if_pos (by omega)]⟩
  | succ m ih =>
   intro x acc h0 h1 h2
   by_cases hx:x > 0
   ·have hd:Int.tdiv x 10=x / 10:=Int.tdiv_eq_ediv_of_nonneg h0
    have hs:(strOfNums [(wrap64 (48+(Int.tmod x 10))) % 256]).size=1:=by rw [strOfNums_size];rfl
    have hq:wrap64 (Int.tdiv x 10)=x / 10:=by rw [hd];exact w64n (by omega) (by omega)
    obtain ⟨k,t,ht⟩:=ih (wrap64 (Int.tdiv x 10)) (strOfNums [(wrap64 (48+(Int.tmod x 10))) % 256] ++ acc) (by rw [hq];omega) (by rw [hq];omega) (by rw [hq,ByteArray.size_append,hs];omega)
    refine ⟨k+1,t,?_⟩
    simp only [laws_markText.l0]
    rw [if_pos hx,Option.bind_some,if_pos (by rw [hs];omega)]
    exact ht
   ·have e109:(⟨#[109]⟩:ByteArray).size=1:=rfl
    exact ⟨1,(⟨#[109]⟩:ByteArray) ++ acc,by simp only [laws_markText.l0];rw [if_neg hx,if_pos (by omega)]⟩
 by_cases hq:q≤0
 ·exact ⟨0,_,by simp only [laws_markText.f];rw [if_pos hq]⟩
 ·obtain ⟨k,t,ht⟩:=hh q.toNat q (⟨#[]⟩:ByteArray) h0 (by omega) (by show ((0:Nat):Int)+q≤_;omega)
  exact ⟨k,t,by simp only [laws_markText.f];rw [if_neg hq];exact ht⟩
end Go.Proofs.YtffjfdoghofkdaaGreat.Ext
namespace Go.Proofs.YtffjfdoghofkdaaGreat.A
open Go.RowKit YtffjfdoghofkdaaGreat.Ext YtffjfdoghofkdaaGreatW.PrintWords YtffjfdoghofkdaaGreatW.PrintLast YtffjfdoghofkdaaGreatW.PrintMore
attribute [local go_sem] max2_int min2_int max_two min_two max_three min_three max_four min_four
def laws_szRegexSG.l0 (gF:Nat→Int→ByteArray→List (S101)→Int→Option (Int)):Nat→List (S101)→Int→Int→Option (Int)
 | 0,_,_,_=>none
 | k+1,x0,x1,x5=>if x5 < (x0.length:Int) then (if 0≤x5 then ((gF k ((rd_T101 x0 x5).f0) ((rd_T101 x0 x5).f1) ((rd_T101 x0 x5).f2) x1).bind fun t135002=>(if t135002 < 0 then (some (-1)) else (laws_szRegexSG.l0 gF k x0 t135002 (wrap64 (x5+1))))) else (none)) else (some x1)
def laws_szRegexSG.f (gF:Nat→Int→ByteArray→List (S101)→Int→Option (Int)) (k:Nat) (l0:List (S101)) (a1:Int):Option (Int):=if (wrap64 (a1 - (l0.length:Int))) < 0 then (some (-1)) else (laws_szRegexSG.l0 gF k l0 (wrap64 (a1 - (l0.length:Int))) 0)
theorem laws_szRegexSG.mono_l (gF:Nat→Int→ByteArray→List (S101)→Int→Option (Int)) (gM:∀ a0 a1 a2 a3 k,LeO (gF k a0 a1 a2 a3) (gF (k+1) a0 a1 a2 a3)):∀ k,(∀ y0 y1 y2,LeO (laws_szRegexSG.l0 gF k y0 y1 y2) (laws_szRegexSG.l0 gF (k+1) y0 y1 y2))
 | 0=>fun _ _ _ r h=>by simp [laws_szRegexSG.l0] at h
 | k+1=>by
  have ih0:=laws_szRegexSG.mono_l gF gM k
  ·intro y0 y1 y2
   unfold laws_szRegexSG.l0
   repeat' first
   | with_reducible first|exact ih0 _ _ _|exact gM _ _ _ _ _|exact LeO.refl _|exact LeO.none _|refine LeO.ite ?_ ?_|refine LeO.bind ?_ (fun _=>?_)
theorem laws_szRegexSG.mono (gF:Nat→Int→ByteArray→List (S101)→Int→Option (Int)) (gM:∀ a0 a1 a2 a3 k,LeO (gF k a0 a1 a2 a3) (gF (k+1) a0 a1 a2 a3)):∀ a0 a1 k,LeO (laws_szRegexSG.f gF k a0 a1) (laws_szRegexSG.f gF (k+1) a0 a1):=by
 intro a0 a1 k
 have ih0:=laws_szRegexSG.mono_l gF gM k
 unfold laws_szRegexSG.f
 repeat' first
  | with_reducible first|exact ih0 _ _ _|exact gM _ _ _ _ _|exact LeO.refl _|exact LeO.none _|refine LeO.ite ?_ ?_|refine LeO.bind ?_ (fun _=>?_)
theorem laws_szRegexSG.calls (gF:Nat→Int→ByteArray→List (S101)→Int→Option (Int)) (gC:∀ (k:Nat) (a0_0:Int) (a0_1:ByteArray) (A0_2:Option Addr) (c0_2:Nat) (l0_2:List (S101)) (a1:Int) (r:Int) (w:World) (hr0_2:Kd.C k101 w A0_2 l0_2.length l0_2) (hc0_2:l0_2.length≤c0_2) (h:gF k a0_0 a0_1 l0_2 a1=some r),Calls Tryz.prog 118 #[.agg #[.int .i64 a0_0,.string a0_1,.slice A0_2 l0_2.length c0_2],.int .i64 a1] w fun e w'=>e = .returned (.int .i64 r)∧Below w.heap.size w w') (k:Nat) (A0:Option Addr) (c0:Nat) (l0:List (S101)) (a1:Int) (r:Int) (w:World) (hr0:Kd.C k101 w A0 l0.length l0) (hc0:l0.length≤c0) (h:laws_szRegexSG.f gF k l0 a1=some r) :
  Calls Tryz.prog 135 #[.slice A0 l0.length c0,.int .i64 a1] w fun e w'=>e = .returned (.int .i64 r)∧Below w.heap.size w w':=by
 have hu101:=Tryz.underlying101
 have HR0:=zk hr0
 have HC0:=zk hc0
 clear hr0 hc0
 have HB:=zk (Below.refl w.heap.size w)
 have H:(if (wrap64 (a1 - (l0.length:Int))) < 0 then (some (-1)) else (laws_szRegexSG.l0 gF k l0 (wrap64 (a1 - (l0.length:Int))) 0))=some r:=h
 clear h
 by_cases c3:(wrap64 (a1 - (l0.length:Int))) < 0
 ·rw [if_pos c3] at H
  have c3b0:decide ((wrap64 (a1 - (l0.length:Int))) < 0)=true:=decide_eq_true c3
  have c3w:decide ((IntKind.i64.wrap (a1 - (l0.length:Int))) < 0)=true:=by simp only [i64_w];exact c3b0
  clear c3
  obtain rfl:=zi H
  go_enter Tryz.func135,Tryz.ntmps135
  go_wp2
  go_ret
  exact ⟨za6,za3⟩
 ·rw [if_neg c3] at H
  have c3b0:decide ((wrap64 (a1 - (l0.length:Int))) < 0)=false:=decide_eq_false c3
  have c3w:decide ((IntKind.i64.wrap (a1 - (l0.length:Int))) < 0)=false:=by simp only [i64_w];exact c3b0
  clear c3
  have H':=zk H
  clear H
  go_enter Tryz.func135,Tryz.ntmps135
  go_wp2
  first|go_loopg [1,5] k (fun kq v1 v5 w'=>∃ (x1_1:Int) (x5_1:Int),v1 = .int .i64 x1_1∧v5 = .int .i64 x5_1∧Aside0 (laws_szRegexSG.l0 gF kq l0 x1_1 x5_1=some r)∧Aside0 (kq≤k)∧Aside0 (Below w.heap.size w w'))|(simp only [Act.put,zt,zv,zu];go_loopg [1,5] k (fun kq v1 v5 w'=>∃ (x1_1:Int) (x5_1:Int),v1 = .int .i64 x1_1∧v5 = .int .i64 x5_1∧Aside0 (laws_szRegexSG.l0 gF kq l0 x1_1 x5_1=some r)∧Aside0 (kq≤k)∧Aside0 (Below w.heap.size w w')))
  case atStart=>exact ⟨(wrap64 (a1 - (l0.length:Int))),(0),za7,za7,H',⟨Nat.le_refl _⟩,⟨za3⟩⟩
  case round =>
   clear H'
   try clear c3
   try clear c3b0
   obtain ⟨x1_1,x5_1,rfl,rfl,HA,HK1,HB⟩:=hrel
   cases gk with
   | zero=>exact absurd HA.out (by simp [laws_szRegexSG.l0])
   | succ k1 =>
    have H:=HA.out
    clear HA
    simp only [laws_szRegexSG.l0] at H
    by_cases c4:x5_1 < (l0.length:Int)
    rw [if_pos c4] at H
    have c4b0:decide (x5_1 < (l0.length:Int))=true:=decide_eq_true c4
    clear c4
    by_cases c5:0≤x5_1
    rw [if_pos c5] at H
    have c5b0:decide (0≤x5_1)=true:=decide_eq_true c5
    clear c5
    replace H:=zo H
    obtain ⟨t135002,A60,H⟩:=H
    replace H:(if t135002 < 0 then (some (-1)) else (laws_szRegexSG.l0 gF k1 l0 t135002 (wrap64 (x5_1+1))))=some r:=H
    have A6:=zk A60
    clear A60
    by_cases c7:t135002 < 0
    rw [if_pos c7] at H
    have c7b0:decide (t135002 < 0)=true:=decide_eq_true c7
    clear c7
    obtain rfl:=zi H
    have fin0_:=zk trivial
    rotate_left
    rw [if_neg c7] at H
    have c7b0:decide (t135002 < 0)=false:=decide_eq_false c7
    clear c7
    have H':=zk H
    clear H
    have fin1_:=zk trivial
    rotate_left
    · rw [if_neg c5] at H
      exact absurd H (by simp)
    · rw [if_neg c4] at H
      have c4b0:decide (x5_1 < (l0.length:Int))=false:=decide_eq_false c4
      clear c4
      obtain rfl:=zi H
      go_wp2
      go_ret
      exact ⟨za6,za3⟩
    all_goals
     have p135001:0≤(x5_1:Int):=of_decide_eq_true za8
     have q135001:x5_1 < (l0.length:Int):=of_decide_eq_true za8
     obtain ⟨ad135001,A135001_2,c135001_2,e135001,hx135001_0,hx135001_1,hx135001_2,hl135001_2,hi135001_2⟩:=at_T101 HR0.out x5_1 p135001 q135001
     cases e135001
     replace hx135001_0:=zx HB.out hx135001_0
     replace hx135001_1:=zx HB.out hx135001_1
     replace hx135001_2:=zx HB.out hx135001_2
     have HR135001_2:=zk hi135001_2
     have HC135001_2:=zk hl135001_2
     clear hi135001_2 hl135001_2
     replace p135001:=eq_true p135001
     replace q135001:=eq_true q135001
     go_wp2_with (((with_reducible refine gate_callee (f:=118) rfl ?_);refine goesL_ (some 23) rfl rfl Tryz.func118 (by kernel_rfl) rfl #[.agg #[.int .i64 ((rd_T101 l0 x5_1).f0),.string ((rd_T101 l0 x5_1).f1),.slice A135001_2 ((rd_T101 l0 x5_1).f2).length c135001_2],.int .i64 x1_1] rfl za4 ?_;(with_reducible refine (gC k1 ((rd_T101 l0 x5_1).f0) ((rd_T101 l0 x5_1).f1) _ _ ((rd_T101 l0 x5_1).f2) x1_1 t135002 _ ?side1 ?side2 A6.out).mono ?_);(case side1=>repeat (first|exact (Kd.C_below HR135001_2.out HB.out)|(with_reducible refine Kd.C_alloc ?_ _)|(with_reducible refine Kd.C_drewN ?_ _)|(with_reducible refine Kd.C_drew ?_)));(case side2=>exact HC135001_2.out);rintro e w8 ⟨rfl,hb⟩;refine ⟨_,rfl,?_⟩;have n0_:=zk (below_step za3 hb);clear HB;have HB:=n0_;clear n0_;(try clear hb);(try clear hb2);(try clear hk);(try clear hi)))
     first
     | (
       clear fin0_
       go_ret
       exact ⟨za6,za3⟩)
     | (
       clear fin1_
       go_roundg k1
       case measure=>have:=HK1.out;omega
       case rel=>exact ⟨(t135002),(wrap64 (x5_1+1)),za7,za7,H',⟨za15⟩,⟨za3⟩⟩)
theorem laws_szRegexSG.mono_lg (gF gF2:Nat→Int→ByteArray→List (S101)→Int→Option (Int)) (hg:∀ b0 b1 b2 b3 k,LeO (gF k b0 b1 b2 b3) (gF2 k b0 b1 b2 b3)):∀ k,(∀ y0 y1 y2,LeO (laws_szRegexSG.l0 gF k y0 y1 y2) (laws_szRegexSG.l0 gF2 k y0 y1 y2))
 | 0=>fun _ _ _ r h=>by simp [laws_szRegexSG.l0] at h
 | k+1=>by
  have ih0:=laws_szRegexSG.mono_lg gF gF2 hg k
  ·intro y0 y1 y2
   unfold laws_szRegexSG.l0
   repeat' first
   | (with_reducible exact ih0 _ _ _)
   | (with_reducible exact hg _ _ _ _ _)
   | (with_reducible exact LeO.refl _)
   | (with_reducible exact LeO.none _)
   | (with_reducible refine LeO.ite ?_ ?_)
   | (with_reducible refine LeO.bind ?_ (fun _=>?_))
   | exact hg _ _ _ _ _
theorem laws_szRegexSG.monog (gF gF2:Nat→Int→ByteArray→List (S101)→Int→Option (Int)) (hg:∀ b0 b1 b2 b3 k,LeO (gF k b0 b1 b2 b3) (gF2 k b0 b1 b2 b3)):∀ a0 a1 k,LeO (laws_szRegexSG.f gF k a0 a1) (laws_szRegexSG.f gF2 k a0 a1):=by
 intro a0 a1 k
 have ih0:=laws_szRegexSG.mono_lg gF gF2 hg k
 unfold laws_szRegexSG.f
 repeat' first
  | (with_reducible exact ih0 _ _ _)
  | (with_reducible exact hg _ _ _ _ _)
  | (with_reducible exact LeO.refl _)
  | (with_reducible exact LeO.none _)
  | (with_reducible refine LeO.ite ?_ ?_)
  | (with_reducible refine LeO.bind ?_ (fun _=>?_))
  | exact hg _ _ _ _ _
def laws_szRegexG.f (gF:Nat→Int→ByteArray→List (S101)→Int→Option (Int)) (k:Nat) (a0_0:Int) (a0_1:ByteArray) (l0_2:List (S101)) (a1:Int):Option (Int):=if (wrap64 (a1 - (a0_1.size:Int))) < 0 then (some (-1)) else ((laws_szRegexSG.f gF k l0_2 (wrap64 (a1 - (a0_1.size:Int)))).bind fun t118002=>(if t118002 < 0 then (some (-1)) else (some t118002)))
theorem laws_szRegexG.mono (gF:Nat→Int→ByteArray→List (S101)→Int→Option (Int)) (gM:∀ a0 a1 a2 a3 k,LeO (gF k a0 a1 a2 a3) (gF (k+1) a0 a1 a2 a3)):∀ a0 a1 a2 a3 k,LeO (laws_szRegexG.f gF k a0 a1 a2 a3) (laws_szRegexG.f gF (k+1) a0 a1 a2 a3):=by
 intro a0 a1 a2 a3 k
 unfold laws_szRegexG.f
 repeat' first
  | with_reducible first|exact laws_szRegexSG.mono gF gM _ _ _|exact LeO.refl _|exact LeO.none _|refine LeO.ite ?_ ?_|refine LeO.bind ?_ (fun _=>?_)
theorem laws_szRegexG.calls (gF:Nat→Int→ByteArray→List (S101)→Int→Option (Int)) (gC:∀ (k:Nat) (a0_0:Int) (a0_1:ByteArray) (A0_2:Option Addr) (c0_2:Nat) (l0_2:List (S101)) (a1:Int) (r:Int) (w:World) (hr0_2:Kd.C k101 w A0_2 l0_2.length l0_2) (hc0_2:l0_2.length≤c0_2) (h:gF k a0_0 a0_1 l0_2 a1=some r),Calls Tryz.prog 118 #[.agg #[.int .i64 a0_0,.string a0_1,.slice A0_2 l0_2.length c0_2],.int .i64 a1] w fun e w'=>e = .returned (.int .i64 r)∧Below w.heap.size w w') (k:Nat) (a0_0:Int) (a0_1:ByteArray) (A0_2:Option Addr) (c0_2:Nat) (l0_2:List (S101)) (a1:Int) (r:Int) (w:World) (hr0_2:Kd.C k101 w A0_2 l0_2.length l0_2) (hc0_2:l0_2.length≤c0_2) (h:laws_szRegexG.f gF k a0_0 a0_1 l0_2 a1=some r) :
   Calls Tryz.prog 118 #[.agg #[.int .i64 a0_0,.string a0_1,.slice A0_2 l0_2.length c0_2],.int .i64 a1] w fun e w'=>e = .returned (.int .i64 r)∧Below w.heap.size w w':=by
 have hu101:=Tryz.underlying101
 have HR0_2:=zk hr0_2
 have HC0_2:=zk hc0_2
 clear hr0_2 hc0_2
 have HB:=zk (Below.refl w.heap.size w)
 have H:(if (wrap64 (a1 - (a0_1.size:Int))) < 0 then (some (-1)) else ((laws_szRegexSG.f gF k l0_2 (wrap64 (a1 - (a0_1.size:Int)))).bind fun t118002=>(if t118002 < 0 then (some (-1)) else (some t118002))))=some r:=h
 clear h
 by_cases c3:(wrap64 (a1 - (a0_1.size:Int))) < 0
 rw [if_pos c3] at H
 have c3b0:decide ((wrap64 (a1 - (a0_1.size:Int))) < 0)=true:=decide_eq_true c3
 have c3w:decide ((IntKind.i64.wrap (a1 - (a0_1.size:Int))) < 0)=true:=by simp only [i64_w];exact c3b0
 clear c3
 rotate_left
 rw [if_neg c3] at H
 have c3b0:decide ((wrap64 (a1 - (a0_1.size:Int))) < 0)=false:=decide_eq_false c3
 have c3w:decide ((IntKind.i64.wrap (a1 - (a0_1.size:Int))) < 0)=false:=by simp only [i64_w];exact c3b0
 clear c3
 replace H:=zo H
 obtain ⟨t118002,A60,H⟩:=H
 replace H:(if t118002 < 0 then (some (-1)) else (some t118002))=some r:=H
 have A6:=zk A60
 clear A60
 by_cases c7:t118002 < 0
 rw [if_pos c7] at H
 have c7b0:decide (t118002 < 0)=true:=decide_eq_true c7
 clear c7
 rotate_left
 rw [if_neg c7] at H
 have c7b0:decide (t118002 < 0)=false:=decide_eq_false c7
 clear c7
 rotate_left
 all_goals
  obtain rfl:=zi H
  go_enter Tryz.func118,Tryz.ntmps118
  go_wp2_with (first|((with_reducible refine gate_dst (N:=2) rfl ?_);refine zE (N:=2) (cs:=#[.int .i64 a0_0,.string a0_1,.slice A0_2 l0_2.length c0_2]) (t:=101) ?_;intro gb118001 hg w11 hbox hb;have n0_:=zk (below_step za3 hb);have n1_:=zk (hbox);have n2_:=zk (zs (w:=w) hg za3);have n3_:=zk (zs (w:=w) hg za3);clear HB;have HB:=n0_;have BK118001:=n1_;have GW118001:=n2_;have GE118001:=n3_;clear n0_ n1_ n2_ n3_;clear hb hbox hg;obtain ⟨hcz12_0,hcz12_1,hcz12_2,hfz12_0,hfz12_1,hfz12_2⟩:=blk3 BK118001.out)|((with_reducible refine gate_callee (f:=135) rfl ?_);refine goesL_ (some 15) rfl rfl Tryz.func135 (by kernel_rfl) rfl #[.slice A0_2 l0_2.length c0_2,.int .i64 (wrap64 (a1 - (a0_1.size:Int)))] rfl za4 ?_;(with_reducible refine (laws_szRegexSG.calls gF gC k _ _ l0_2 (wrap64 (a1 - (a0_1.size:Int))) t118002 _ ?side1 ?side2 A6.out).mono ?_);(case side1=>repeat (first|exact (Kd.C_below HR0_2.out HB.out)|(with_reducible refine Kd.C_alloc ?_ _)|(with_reducible refine Kd.C_drewN ?_ _)|(with_reducible refine Kd.C_drew ?_)));(case side2=>exact HC0_2.out);rintro e w13 ⟨rfl,hb⟩;refine ⟨_,rfl,?_⟩;have n0_:=zk (zb BK118001.out hb);have n1_:=zk (below_step za3 hb);clear BK118001;clear HB;have BK118001:=n0_;have HB:=n1_;clear n0_ n1_;(try clear hb);(try clear hb2);(try clear hk);(try clear hi)))
  go_ret
  exact ⟨za6,za3⟩
theorem laws_szRegexG.monog (gF gF2:Nat→Int→ByteArray→List (S101)→Int→Option (Int)) (hg:∀ b0 b1 b2 b3 k,LeO (gF k b0 b1 b2 b3) (gF2 k b0 b1 b2 b3)):∀ a0 a1 a2 a3 k,LeO (laws_szRegexG.f gF k a0 a1 a2 a3) (laws_szRegexG.f gF2 k a0 a1 a2 a3):=by
 intro a0 a1 a2 a3 k
 unfold laws_szRegexG.f
 repeat' first
  | (with_reducible exact laws_szRegexSG.monog gF gF2 hg _ _ _)
  | (with_reducible exact LeO.refl _)
  | (with_reducible exact LeO.none _)
  | (with_reducible refine LeO.ite ?_ ?_)
  | (with_reducible refine LeO.bind ?_ (fun _=>?_))
  | exact laws_szRegexSG.monog gF gF2 hg _ _ _
def laws_szRegex.f:Nat→Int→ByteArray→List (S101)→Int→Option (Int)
 | 0,_,_,_,_=>none
 | K+1,a0_,a1_,a2_,a3_=>laws_szRegexG.f (fun _=>laws_szRegex.f K) K a0_ a1_ a2_ a3_
theorem laws_szRegex.mono:∀ a0 a1 a2 a3 k,LeO (laws_szRegex.f k a0 a1 a2 a3) (laws_szRegex.f (k+1) a0 a1 a2 a3):=by
 intro a0_ a1_ a2_ a3_ k
 induction k generalizing a0_ a1_ a2_ a3_ with
 | zero=>exact LeO.none _
 | succ K ih =>
  intro r h
  have h1:=laws_szRegexG.monog (fun _=>laws_szRegex.f K) (fun _=>laws_szRegex.f (K+1)) (fun a0_ a1_ a2_ a3_ k=>ih a0_ a1_ a2_ a3_) a0_ a1_ a2_ a3_ K r h
  exact laws_szRegexG.mono (fun _=>laws_szRegex.f (K+1)) (fun a0_ a1_ a2_ a3_ k=>LeO.refl _) a0_ a1_ a2_ a3_ K r h1
theorem laws_szRegex.calls (k:Nat) (a0_0:Int) (a0_1:ByteArray) (A0_2:Option Addr) (c0_2:Nat) (l0_2:List (S101)) (a1:Int) (r:Int) (w:World) (hr0_2:Kd.C k101 w A0_2 l0_2.length l0_2) (hc0_2:l0_2.length≤c0_2) (h:laws_szRegex.f k a0_0 a0_1 l0_2 a1=some r) :
  Calls Tryz.prog 118 #[.agg #[.int .i64 a0_0,.string a0_1,.slice A0_2 l0_2.length c0_2],.int .i64 a1] w fun e w'=>e = .returned (.int .i64 r)∧Below w.heap.size w w':=by
 induction k generalizing a0_0 a0_1 A0_2 c0_2 l0_2 a1 r w hr0_2 hc0_2 with
 | zero=>exact absurd h (by simp [laws_szRegex.f])
 | succ K ih=>exact laws_szRegexG.calls (fun _=>laws_szRegex.f K) (fun k a0_0 a0_1 A0_2 c0_2 l0_2 a1 r w hr0_2 hc0_2 h=>ih a0_0 a0_1 A0_2 c0_2 l0_2 a1 r w hr0_2 hc0_2 h) K a0_0 a0_1 A0_2 c0_2 l0_2 a1 r w hr0_2 hc0_2 h
def laws_szRegexS.f (k:Nat) (l0:List (S101)) (a1:Int):Option (Int):=laws_szRegexSG.f laws_szRegex.f k l0 a1
theorem laws_szRegexS.mono:∀ a0 a1 k,LeO (laws_szRegexS.f k a0 a1) (laws_szRegexS.f (k+1) a0 a1):=laws_szRegexSG.mono laws_szRegex.f laws_szRegex.mono
theorem laws_szRegexS.calls (k:Nat) (A0:Option Addr) (c0:Nat) (l0:List (S101)) (a1:Int) (r:Int) (w:World) (hr0:Kd.C k101 w A0 l0.length l0) (hc0:l0.length≤c0) (h:laws_szRegexS.f k l0 a1=some r) :
 Calls Tryz.prog 135 #[.slice A0 l0.length c0,.int .i64 a1] w fun e w'=>e = .returned (.int .i64 r)∧Below w.heap.size w w':=laws_szRegexSG.calls laws_szRegex.f laws_szRegex.calls k A0 c0 l0 a1 r w hr0 hc0 h
def laws_toRegexSG.l0 (gF:Nat→Int→ByteArray→List (S101)→Option (Int × ByteArray × (List (S65)))):Nat→List (S101)→List (S65)→Int→Option ((List (S65)))
 | 0,_,_,_=>none
 | k+1,x0,x3,x4=>if x4 < (x0.length:Int) then (if 0≤x4 then ((gF k ((rd_T101 x0 x4).f0) ((rd_T101 x0 x4).f1) ((rd_T101 x0 x4).f2)).bind fun bt136005=>(if x4 < (x3.length:Int) then (laws_toRegexSG.l0 gF k x0 (x3.set (x4:Int).toNat (⟨bt136005.1,bt136005.2.1,bt136005.2.2⟩:S65)) (wrap64 (x4+1))) else (none))) else (none)) else (some x3)
def laws_toRegexSG.f (gF:Nat→Int→ByteArray→List (S101)→Option (Int × ByteArray × (List (S65)))) (k:Nat) (l0:List (S101)):Option ((List (S65))):=if 0≤(l0.length:Int) then (if ((l0.length:Int):Int).toNat≤5864062014805 then (laws_toRegexSG.l0 gF k l0 (List.replicate ((l0.length:Int):Int).toNat z65) 0) else (none)) else (none)
theorem laws_toRegexSG.mono_l (gF:Nat→Int→ByteArray→List (S101)→Option (Int × ByteArray × (List (S65)))) (gM:∀ a0 a1 a2 k,LeO (gF k a0 a1 a2) (gF (k+1) a0 a1 a2)):∀ k,(∀ y0 y1 y2,LeO (laws_toRegexSG.l0 gF k y0 y1 y2) (laws_toRegexSG.l0 gF (k+1) y0 y1 y2))
 | 0=>fun _ _ _ r h=>by simp [laws_toRegexSG.l0] at h
 | k+1=>by
  have ih0:=laws_toRegexSG.mono_l gF gM k
  ·intro y0 y1 y2
   unfold laws_toRegexSG.l0
   repeat' first
   | with_reducible first|exact ih0 _ _ _|exact gM _ _ _ _|exact LeO.refl _|exact LeO.none _|refine LeO.ite ?_ ?_|refine LeO.bind ?_ (fun _=>?_)
theorem laws_toRegexSG.mono (gF:Nat→Int→ByteArray→List (S101)→Option (Int × ByteArray × (List (S65)))) (gM:∀ a0 a1 a2 k,LeO (gF k a0 a1 a2) (gF (k+1) a0 a1 a2)):∀ a0 k,LeO (laws_toRegexSG.f gF k a0) (laws_toRegexSG.f gF (k+1) a0):=by
 intro a0 k
 have ih0:=laws_toRegexSG.mono_l gF gM k
 unfold laws_toRegexSG.f
 repeat' first
  | with_reducible first|exact ih0 _ _ _|exact gM _ _ _ _|exact LeO.refl _|exact LeO.none _|refine LeO.ite ?_ ?_|refine LeO.bind ?_ (fun _=>?_)
theorem laws_toRegexSG.calls (gF:Nat→Int→ByteArray→List (S101)→Option (Int × ByteArray × (List (S65)))) (gC:∀ (k:Nat) (a0_0:Int) (a0_1:ByteArray) (A0_2:Option Addr) (c0_2:Nat) (l0_2:List (S101)) (r1:Int) (r2:ByteArray) (r3:List (S65)) (w:World) (hr0_2:Kd.C k101 w A0_2 l0_2.length l0_2) (hc0_2:l0_2.length≤c0_2) (h:gF k a0_0 a0_1 l0_2=some (r1,r2,r3)),Calls Tryz.prog 120 #[.agg #[.int .i64 a0_0,.string a0_1,.slice A0_2 l0_2.length c0_2]] w fun e w'=>∃ v2_:Value,e = .returned (.agg #[.int .i64 r1,.string r2,v2_])∧Kd.R k65 65 w' w.heap.size (fun _=>True) v2_ r3∧Below w.heap.size w w') (k:Nat) (A0:Option Addr) (c0:Nat) (l0:List (S101)) (r:List (S65)) (w:World) (hr0:Kd.C k101 w A0 l0.length l0) (hc0:l0.length≤c0) (h:laws_toRegexSG.f gF k l0=some r) :
  Calls Tryz.prog 136 #[.slice A0 l0.length c0] w fun e w'=>∃ v0_:Value,e = .returned (v0_)∧Kd.R k65 65 w' w.heap.size (fun _=>True) v0_ r∧Below w.heap.size w w':=by
 have hu101:=Tryz.underlying101
 have hu65:=Tryz.underlying65
 have HR0:=zk hr0
 have HC0:=zk hc0
 clear hr0 hc0
 have HB:=zk (Below.refl w.heap.size w)
 have H:(if 0≤(l0.length:Int) then (if ((l0.length:Int):Int).toNat≤5864062014805 then (laws_toRegexSG.l0 gF k l0 (List.replicate ((l0.length:Int):Int).toNat z65) 0) else (none)) else (none))=some r:=h
 clear h
 by_cases c2:0≤(l0.length:Int)
 rw [if_pos c2] at H
 have c2b0:=eq_true c2
 have c2b1:decide (0≤(l0.length:Int))=true:=decide_eq_true c2
 clear c2
 by_cases c3:((l0.length:Int):Int).toNat≤5864062014805
 ·rw [if_pos c3] at H
  have c3b0:=eq_true c3
  have c3b1:decide (((l0.length:Int):Int).toNat≤5864062014805)=true:=decide_eq_true c3
  clear c3
  obtain ⟨y136001,hy136001⟩:∃ y_:List (S65),y_=(List.replicate ((l0.length:Int):Int).toNat z65):=⟨_,rfl⟩
  replace H:(laws_toRegexSG.l0 gF k l0 y136001 0)=some r:=by first|(rw [hy136001];with_reducible exact H)|(have H2_:=(Option.bind_some _ _).symm.trans H;rw [hy136001];with_reducible exact H2_)|(have H2_:=(Option.bind_some _ _).symm.trans H;with_reducible exact H2_)|with_reducible exact H|(rw [hy136001];exact H)|exact H
  have Ny136001:=zk hy136001
  clear hy136001
  have H':=zk H
  clear H
  go_enter Tryz.func136,Tryz.ntmps136
  go_wp2_with (first|((with_reducible refine gate_dst (N:=7) rfl ?_);refine Kd.R_make k65 _ 65 rfl (N:=7) rfl 63 _ _ rfl (l0.length:Int) rfl rfl Tryz.underlying63 (.agg #[(.int .i64 0),(.string ⟨#[]⟩),(.slice none 0 0)]) 48 info65 rfl (by decide) (by omega) z65 (ok:=fun _=>True) (okp:=fun _=>True) (k65_mkM _ _ _ z65 (Kd.R_nil _ _ _ _ _)) (fun _ hk=>hk) trivial (of_decide_eq_true za8) (Nat.le_trans (Nat.mul_le_mul_right _ (of_decide_eq_true za8:(l0.length:Int).toNat≤5864062014805)) (by omega)) (Below.refl _ _) (Nat.le_refl _) ?_;intro v136002 w4 ho5 hb hg_ hnew_;clear hg_ hnew_;(first|rw [← Ny136001.out] at ho5|(simp only [Int.reduceToNat] at ho5;rw [← Ny136001.out] at ho5));have n0_:=zk (Kd.R_lower ho5 (below_size za3));have n1_:=zk (below_step za3 hb);clear HB;have HO136003:=n0_;have HB:=n1_;clear n0_ n1_;clear hb ho5))
  first|go_loopg [4] k (fun kq v4 w'=>∃ (x3_1:List (S65)) (x4_1:Int),v4 = .int .i64 x4_1∧Aside0 (laws_toRegexSG.l0 gF kq l0 x3_1 x4_1=some r)∧Aside0 (kq≤k)∧Aside0 (Kd.R k65 65 w' w.heap.size (fun _=>True) v136002 x3_1)∧Aside0 (Below w.heap.size w w'))|(simp only [Act.put,zt,zv,zu];go_loopg [4] k (fun kq v4 w'=>∃ (x3_1:List (S65)) (x4_1:Int),v4 = .int .i64 x4_1∧Aside0 (laws_toRegexSG.l0 gF kq l0 x3_1 x4_1=some r)∧Aside0 (kq≤k)∧Aside0 (Kd.R k65 65 w' w.heap.size (fun _=>True) v136002 x3_1)∧Aside0 (Below w.heap.size w w')))
  case atStart=>exact ⟨(y136001),(0),za7,H',⟨Nat.le_refl _⟩,⟨za0 HO136003.out⟩,⟨za3⟩⟩
  case round =>
   clear H'
   try clear c3
   try clear c3b0
   try clear c3b1
   obtain ⟨x3_1,x4_1,rfl,HA,HK1,HO_3,HB⟩:=hrel
   cases gk with
   | zero=>exact absurd HA.out (by simp [laws_toRegexSG.l0])
   | succ k1 =>
    have H:=HA.out
    clear HA
    simp only [laws_toRegexSG.l0] at H
    by_cases c6:x4_1 < (l0.length:Int)
    rw [if_pos c6] at H
    have c6b0:decide (x4_1 < (l0.length:Int))=true:=decide_eq_true c6
    clear c6
    by_cases c7:0≤x4_1
    rw [if_pos c7] at H
    have c7b0:decide (0≤x4_1)=true:=decide_eq_true c7
    clear c7
    replace H:=zo H
    obtain ⟨⟨t136005,t136006,t136007⟩,A80,H⟩:=H
    replace H:(if x4_1 < (x3_1.length:Int) then (laws_toRegexSG.l0 gF k1 l0 (x3_1.set (x4_1:Int).toNat (⟨t136005,t136006,t136007⟩:S65)) (wrap64 (x4_1+1))) else (none))=some r:=H
    have A8:=zk A80
    clear A80
    by_cases c9:x4_1 < (x3_1.length:Int)
    ·rw [if_pos c9] at H
     have c9b0:decide (x4_1 < (x3_1.length:Int))=true:=decide_eq_true c9
     clear c9
     obtain ⟨y136010,hy136010⟩:∃ y_:List (S65),y_=(x3_1.set (x4_1:Int).toNat (⟨t136005,t136006,t136007⟩:S65)):=⟨_,rfl⟩
     replace H:(laws_toRegexSG.l0 gF k1 l0 y136010 (wrap64 (x4_1+1)))=some r:=by first|(rw [hy136010];with_reducible exact H)|(have H2_:=(Option.bind_some _ _).symm.trans H;rw [hy136010];with_reducible exact H2_)|(have H2_:=(Option.bind_some _ _).symm.trans H;with_reducible exact H2_)|with_reducible exact H|(rw [hy136010];exact H)|exact H
     have Ny136010:=zk hy136010
     clear hy136010
     have H':=zk H
     clear H
     have p136004:0≤(x4_1:Int):=of_decide_eq_true za8
     have q136004:x4_1 < (l0.length:Int):=of_decide_eq_true za8
     obtain ⟨ad136004,A136004_2,c136004_2,e136004,hx136004_0,hx136004_1,hx136004_2,hl136004_2,hi136004_2⟩:=at_T101 HR0.out x4_1 p136004 q136004
     cases e136004
     replace hx136004_0:=zx HB.out hx136004_0
     replace hx136004_1:=zx HB.out hx136004_1
     replace hx136004_2:=zx HB.out hx136004_2
     have HR136004_2:=zk hi136004_2
     have HC136004_2:=zk hl136004_2
     clear hi136004_2 hl136004_2
     replace p136004:=eq_true p136004
     replace q136004:=eq_true q136004
     go_wp2_with (first|((with_reducible refine gate_callee (f:=120) rfl ?_);refine goesL_ (some 20) rfl rfl Tryz.func120 (by kernel_rfl) rfl #[.agg #[.int .i64 ((rd_T101 l0 x4_1).f0),.string ((rd_T101 l0 x4_1).f1),.slice A136004_2 ((rd_T101 l0 x4_1).f2).length c136004_2]] rfl za4 ?_;(with_reducible refine (gC k1 ((rd_T101 l0 x4_1).f0) ((rd_T101 l0 x4_1).f1) _ _ ((rd_T101 l0 x4_1).f2) t136005 t136006 t136007 _ ?side1 ?side2 A8.out).mono ?_);(case side1=>repeat (first|exact (Kd.C_below HR136004_2.out HB.out)|(with_reducible refine Kd.C_alloc ?_ _)|(with_reducible refine Kd.C_drewN ?_ _)|(with_reducible refine Kd.C_drew ?_)));(case side2=>exact HC136004_2.out);rintro e w11 ⟨v136008,rfl,ho0,hb⟩;refine ⟨_,rfl,?_⟩;have n0_:=zk (Kd.R_elder' (za0 HO_3.out) (Kd.R_base ho0) hb);have n1_:=zk (Kd.R_lower (Kd.R_new' ho0 (Kd.R_lt (za0 HO_3.out))) (below_size za3));have n2_:=zk (below_step za3 hb);clear HO_3;clear HB;have HO_3:=n0_;have HO136009:=n1_;have HB:=n2_;clear n0_ n1_ n2_;(try clear hb);(try clear hb2);(try clear hk);(try clear hi);(try clear ho0);have p10:0≤(x4_1:Int):=of_decide_eq_true za8;have q10:(x4_1:Int) < ((x3_1.length:Int):Int):=of_decide_eq_true za8;obtain ⟨go10,co10,eo10,gb10,gl10,cl10,HG10⟩:=Kd.R_form HO_3.out (by omega);(first|cases eo10|(injection eo10 with ea_ en_ ec_;(first|subst ea_|(injection ea_ with ea_;subst ea_));subst ec_;clear en_));have GB10:=zk gb10;have GG10:=zk HG10;clear gb10 gl10 HG10;obtain ⟨ce10,hcl10,hM10,hcc10,hfr10⟩:=Kd.R_elem HO_3.out z65 (x4_1:Int) p10 q10;obtain ⟨ve10_2,rfl,ge10_2⟩:=k65_openM hM10;have hx10_0:w11.cell? ⟨go10,(x4_1:Int).toNat * 3,none⟩=some (.int .i64 ((rd_T65 x3_1 x4_1).f0)):=hcc10 0 _ rfl;have hx10_1:w11.cell? ⟨go10,(x4_1:Int).toNat * 3+1,none⟩=some (.string ((rd_T65 x3_1 x4_1).f1)):=hcc10 1 _ rfl;have hx10_2:w11.cell? ⟨go10,(x4_1:Int).toNat * 3+2,none⟩=some (ve10_2):=hcc10 2 _ rfl;have hf10_0:w11.frozen? ⟨go10,(x4_1:Int).toNat * 3,none⟩=false:=hfr10 0;have hf10_1:w11.frozen? ⟨go10,(x4_1:Int).toNat * 3+1,none⟩=false:=hfr10 1;have hf10_2:w11.frozen? ⟨go10,(x4_1:Int).toNat * 3+2,none⟩=false:=hfr10 2;clear hcl10 hcc10 hfr10;(try clear hM10);replace p10:=eq_true p10;replace q10:=eq_true q10;have n_:=zk (Kd.R_mono (ok':=(fun k_=>some k_ ≠ (v136008:Value).ownBlock)) HO_3.out (fun k_ hk=>hk.2));clear HO_3;have HO_3:=n_;clear n_;have HX12:=zk (show Kd.R k65 65 w11 w.heap.size (fun _=>True) (.slice (some ⟨go10,0,none⟩) x3_1.length co10) x3_1 from (by (with_reducible repeat (first|apply Kd.R_alloc|apply Kd.R_drewN|apply Kd.R_drew));exact Kd.R_mono HO_3.out (fun _ hk=>trivial)));obtain ⟨ce12,hcl12,hM12,hcc12,hfr12⟩:=Kd.R_elem HX12.out z65 (x4_1:Int) (of_decide_eq_true za8) (by have h_:(x4_1:Int) < ((x3_1.length:Int):Int):=of_decide_eq_true za8;first|exact h_|(have e_:=(Kd.R_reads' HO_3.out).1;omega)|simpa using h_);obtain ⟨ve12_2,rfl,ge12_2⟩:=k65_openM hM12;have HP12:=Kd.R_seg HX12.out (x4_1:Int) (of_decide_eq_true za8) (by have h_:(x4_1:Int) < ((x3_1.length:Int):Int):=of_decide_eq_true za8;first|exact h_|(have e_:=(Kd.R_reads' HO_3.out).1;omega)|simpa using h_) (seg:=[.int .i64 t136005,.string t136006,v136008]) (j:=0) hcl12 hcc12 (show 3≤3 from by decide) (x':=(⟨t136005,t136006,t136007⟩:S65)) (k65_mkM _ _ _ (⟨t136005,t136006,t136007⟩:S65) (Kd.R_mono (HO136009.out) (fun k_ hk=>⟨trivial,fun e_=>(hk.2) (by rw [e_];rfl)⟩))) (fun _ hk=>hk);have hx12_0:=hcc12 0 _ rfl;(try simp only [show (k65).sz=3 from rfl,Nat.mul_one,Nat.add_zero] at hx12_0);have hf12_0:=hfr12 0;(try simp only [show (k65).sz=3 from rfl,Nat.mul_one,Nat.add_zero] at hf12_0);have hx12_1:=hcc12 1 _ rfl;(try simp only [show (k65).sz=3 from rfl,Nat.mul_one,Nat.add_zero] at hx12_1);have hf12_1:=hfr12 1;(try simp only [show (k65).sz=3 from rfl,Nat.mul_one,Nat.add_zero] at hf12_1);have hx12_2:=hcc12 2 _ rfl;(try simp only [show (k65).sz=3 from rfl,Nat.mul_one,Nat.add_zero] at hx12_2);have hf12_2:=hfr12 2;(try simp only [show (k65).sz=3 from rfl,Nat.mul_one,Nat.add_zero] at hf12_2);clear hcl12 hcc12 hfr12;(try clear hM12))|((with_reducible refine gate_store (t:=65) (p:=21) rfl ?_);refine store_event (t:=65) (p:=21) (v:=?vo_w13) (w1:=(((w11.setCell ⟨go10,(x4_1:Int).toNat * 3,none⟩ (.int .i64 t136005)).setCell ⟨go10,(x4_1:Int).toNat * 3+1,none⟩ (.string t136006)).setCell ⟨go10,(x4_1:Int).toNat * 3+2,none⟩ (v136008))) ?hg ?ho ?hn ?hr ?_;(case ho=>rfl);(case hg=>rfl);(case hn=>rfl);(case hr=>first|(go_simp;done)|(go_simp;rfl)|(obtain ⟨sA_,sc_,se_⟩:=Kd.R_slice HO136009.out;subst se_;first|(go_simp;done)|(go_simp;rfl)));intro w13 hw;have hg:w11.grownBy w13 (some go10):=(by rw [hw];exact HP12.2);have hp_:Kd.R k65 65 w13 w.heap.size (fun _=>True) (.slice (some ⟨go10,0,none⟩) x3_1.length co10) y136010:=(by rw [hw,Ny136010.out];exact HP12.1);clear HP12;have n0_:=zk (hp_);have n1_:=zk ((by rw [hw];exact below_set (below_set (below_set (HB.out) GB10.out) GB10.out) GB10.out:Below w.heap.size w w13));clear HO_3;clear HB;clear HO136009;have HO_3:=n0_;have HB:=n1_;clear n0_ n1_;clear hg hw hp_))
     go_roundg k1
     case measure=>have:=HK1.out;omega
     case rel=>exact ⟨(y136010),(wrap64 (x4_1+1)),za7,H',⟨za15⟩,⟨za0 HO_3.out⟩,⟨za3⟩⟩
    ·rw [if_neg c9] at H
     exact absurd H (by simp)
    ·rw [if_neg c7] at H
     exact absurd H (by simp)
    ·rw [if_neg c6] at H
     have c6b0:decide (x4_1 < (l0.length:Int))=false:=decide_eq_false c6
     clear c6
     obtain rfl:=zi H
     go_wp2
     go_ret
     exact ⟨_,za6,za0 HO_3.out,za3⟩
 ·rw [if_neg c3] at H
  exact absurd H (by simp)
 ·rw [if_neg c2] at H
  exact absurd H (by simp)
theorem laws_toRegexSG.mono_lg (gF gF2:Nat→Int→ByteArray→List (S101)→Option (Int × ByteArray × (List (S65)))) (hg:∀ b0 b1 b2 k,LeO (gF k b0 b1 b2) (gF2 k b0 b1 b2)):∀ k,(∀ y0 y1 y2,LeO (laws_toRegexSG.l0 gF k y0 y1 y2) (laws_toRegexSG.l0 gF2 k y0 y1 y2))
 | 0=>fun _ _ _ r h=>by simp [laws_toRegexSG.l0] at h
 | k+1=>by
  have ih0:=laws_toRegexSG.mono_lg gF gF2 hg k
  ·intro y0 y1 y2
   unfold laws_toRegexSG.l0
   repeat' first
   | (with_reducible exact ih0 _ _ _)
   | (with_reducible exact hg _ _ _ _)
   | (with_reducible exact LeO.refl _)
   | (with_reducible exact LeO.none _)
   | (with_reducible refine LeO.ite ?_ ?_)
   | (with_reducible refine LeO.bind ?_ (fun _=>?_))
   | exact hg _ _ _ _
theorem laws_toRegexSG.monog (gF gF2:Nat→Int→ByteArray→List (S101)→Option (Int × ByteArray × (List (S65)))) (hg:∀ b0 b1 b2 k,LeO (gF k b0 b1 b2) (gF2 k b0 b1 b2)):∀ a0 k,LeO (laws_toRegexSG.f gF k a0) (laws_toRegexSG.f gF2 k a0):=by
 intro a0 k
 have ih0:=laws_toRegexSG.mono_lg gF gF2 hg k
 unfold laws_toRegexSG.f
 repeat' first
  | (with_reducible exact ih0 _ _ _)
  | (with_reducible exact hg _ _ _ _)
  | (with_reducible exact LeO.refl _)
  | (with_reducible exact LeO.none _)
  | (with_reducible refine LeO.ite ?_ ?_)
  | (with_reducible refine LeO.bind ?_ (fun _=>?_))
  | exact hg _ _ _ _
def laws_toRegexG.f (gF:Nat→Int→ByteArray→List (S101)→Option (Int × ByteArray × (List (S65)))) (k:Nat) (a0_0:Int) (a0_1:ByteArray) (l0_2:List (S101)):Option (Int × ByteArray × (List (S65))):=(laws_toRegexSG.f gF k l0_2).bind fun t120004=>(some (a0_0,a0_1,t120004))
theorem laws_toRegexG.mono (gF:Nat→Int→ByteArray→List (S101)→Option (Int × ByteArray × (List (S65)))) (gM:∀ a0 a1 a2 k,LeO (gF k a0 a1 a2) (gF (k+1) a0 a1 a2)):∀ a0 a1 a2 k,LeO (laws_toRegexG.f gF k a0 a1 a2) (laws_toRegexG.f gF (k+1) a0 a1 a2):=by
 intro a0 a1 a2 k
 unfold laws_toRegexG.f
 repeat' first
  | with_reducible first|exact laws_toRegexSG.mono gF gM _ _|exact LeO.refl _|exact LeO.none _|refine LeO.ite ?_ ?_|refine LeO.bind ?_ (fun _=>?_)
theorem laws_toRegexG.calls (gF:Nat→Int→ByteArray→List (S101)→Option (Int × ByteArray × (List (S65)))) (gC:∀ (k:Nat) (a0_0:Int) (a0_1:ByteArray) (A0_2:Option Addr) (c0_2:Nat) (l0_2:List (S101)) (r1:Int) (r2:ByteArray) (r3:List (S65)) (w:World) (hr0_2:Kd.C k101 w A0_2 l0_2.length l0_2) (hc0_2:l0_2.length≤c0_2) (h:gF k a0_0 a0_1 l0_2=some (r1,r2,r3)),Calls Tryz.prog 120 #[.agg #[.int .i64 a0_0,.string a0_1,.slice A0_2 l0_2.length c0_2]] w fun e w'=>∃ v2_:Value,e = .returned (.agg #[.int .i64 r1,.string r2,v2_])∧Kd.R k65 65 w' w.heap.size (fun _=>True) v2_ r3∧Below w.heap.size w w') (k:Nat) (a0_0:Int) (a0_1:ByteArray) (A0_2:Option Addr) (c0_2:Nat) (l0_2:List (S101)) (r1:Int) (r2:ByteArray) (r3:List (S65)) (w:World) (hr0_2:Kd.C k101 w A0_2 l0_2.length l0_2) (hc0_2:l0_2.length≤c0_2) (h:laws_toRegexG.f gF k a0_0 a0_1 l0_2=some (r1,r2,r3)) :
  Calls Tryz.prog 120 #[.agg #[.int .i64 a0_0,.string a0_1,.slice A0_2 l0_2.length c0_2]] w fun e w'=>∃ v2_:Value,e = .returned (.agg #[.int .i64 r1,.string r2,v2_])∧Kd.R k65 65 w' w.heap.size (fun _=>True) v2_ r3∧Below w.heap.size w w':=by
 have hu101:=Tryz.underlying101
 have hu65:=Tryz.underlying65
 have HR0_2:=zk hr0_2
 have HC0_2:=zk hc0_2
 clear hr0_2 hc0_2
 have HB:=zk (Below.refl w.heap.size w)
 have H:((laws_toRegexSG.f gF k l0_2).bind fun t120004=>(some (a0_0,a0_1,t120004)))=some (r1,r2,r3):=h
 clear h
 replace H:=zo H
 obtain ⟨t120004,A20,H⟩:=H
 replace H:(some (a0_0,a0_1,t120004))=some (r1,r2,r3):=H
 have A2:=zk A20
 clear A20
 simp only [Option.some.injEq,Prod.mk.injEq] at H
 obtain ⟨rfl,rfl,rfl⟩:=H
 go_enter Tryz.func120,Tryz.ntmps120
 go_wp2_with (first|((with_reducible refine gate_dst (N:=1) rfl ?_);refine zE (N:=1) (cs:=#[.int .i64 a0_0,.string a0_1,.slice A0_2 l0_2.length c0_2]) (t:=101) ?_;intro gb120001 hg w3 hbox hb;have n0_:=zk (below_step za3 hb);have n1_:=zk (hbox);have n2_:=zk (zs (w:=w) hg za3);have n3_:=zk (zs (w:=w) hg za3);clear HB;have HB:=n0_;have BK120001:=n1_;have GW120001:=n2_;have GE120001:=n3_;clear n0_ n1_ n2_ n3_;clear hb hbox hg)|((with_reducible refine gate_dst (N:=2) rfl ?_);refine zE (N:=2) (cs:=#[.int .i64 0,.string (⟨#[]⟩:ByteArray),.slice none 0 0]) (t:=65) ?_;intro gb120002 hg w4 hbox hb;have n0_:=zk (zb BK120001.out hb);have n1_:=zk (below_step za3 hb);have n2_:=zk (hbox);have n3_:=zk (zs (w:=w) hg za3);have n4_:=zk (zs (w:=w) hg za3);have n5_:=zk ((by rw [hg];exact Nat.ne_of_lt (zl BK120001.out):gb120001 ≠ gb120002));have n6_:=zk ((by rw [hg];exact Nat.ne_of_gt (zl BK120001.out):gb120002 ≠ gb120001));clear BK120001;clear HB;have BK120001:=n0_;have HB:=n1_;have BK120002:=n2_;have GW120002:=n3_;have GE120002:=n4_;have NB120001_120002:=n5_;have NB120002_120001:=n6_;clear n0_ n1_ n2_ n3_ n4_ n5_ n6_;clear hb hbox hg)|((with_reducible refine gate_dst (N:=3) rfl ?_);refine zE (N:=3) (cs:=#[.int .i64 0,.string (⟨#[]⟩:ByteArray),.slice none 0 0]) (t:=65) ?_;intro gb120003 hg w5 hbox hb;have n0_:=zk (zb BK120001.out hb);have n1_:=zk (zb BK120002.out hb);have n2_:=zk (below_step za3 hb);have n3_:=zk (hbox);have n4_:=zk (zs (w:=w) hg za3);have n5_:=zk (zs (w:=w) hg za3);have n6_:=zk ((by rw [hg];exact Nat.ne_of_lt (zl BK120001.out):gb120001 ≠ gb120003));have n7_:=zk ((by rw [hg];exact Nat.ne_of_gt (zl BK120001.out):gb120003 ≠ gb120001));have n8_:=zk ((by rw [hg];exact Nat.ne_of_lt (zl BK120002.out):gb120002 ≠ gb120003));have n9_:=zk ((by rw [hg];exact Nat.ne_of_gt (zl BK120002.out):gb120003 ≠ gb120002));clear BK120001;clear BK120002;clear HB;have BK120001:=n0_;have BK120002:=n1_;have HB:=n2_;have BK120003:=n3_;have GW120003:=n4_;have GE120003:=n5_;have NB120001_120003:=n6_;have NB120003_120001:=n7_;have NB120002_120003:=n8_;have NB120003_120002:=n9_;clear n0_ n1_ n2_ n3_ n4_ n5_ n6_ n7_ n8_ n9_;clear hb hbox hg;have hnb6:=NB120001_120002.out;have hnc6:=NB120002_120001.out;have hnb7:=NB120001_120003.out;have hnc7:=NB120003_120001.out;obtain ⟨hcz8_0,hcz8_1,hcz8_2,hfz8_0,hfz8_1,hfz8_2⟩:=blk3 BK120001.out;have hnb9:=NB120003_120002.out;have hnc9:=NB120002_120003.out;obtain ⟨hcz10_0,hcz10_1,hcz10_2,hfz10_0,hfz10_1,hfz10_2⟩:=blk3 BK120003.out)|((with_reducible refine gate_callee (f:=136) rfl ?_);refine goesL_ (some 12) rfl rfl Tryz.func136 (by kernel_rfl) rfl #[.slice A0_2 l0_2.length c0_2] rfl za4 ?_;(with_reducible refine (laws_toRegexSG.calls gF gC k _ _ l0_2 t120004 _ ?side1 ?side2 A2.out).mono ?_);(case side1=>exact Kd.C_below HR0_2.out za3);(case side2=>exact HC0_2.out);rintro e w11 ⟨v120005,rfl,ho0,hb⟩;refine ⟨_,rfl,?_⟩;have n0_:=zk (Kd.R_lower (Kd.R_newB (Kd.R_newB ho0 (g:=gb120002) (o:=.cells #[.int .i64 0,.string (⟨#[]⟩:ByteArray),.slice none 0 0] 65 (0,0)) za25) (g:=gb120003) (o:=.cells #[.int .i64 a0_0,.string a0_1,.slice none 0 0] 65 (0,0)) za20) (below_size za3));have n1_:=zk (blk_below (g:=gb120001) (o:=.cells #[.int .i64 a0_0,.string a0_1,.slice A0_2 l0_2.length c0_2] 101 (0,0)) (by (with_reducible repeat (first|refine blk_drewN ?_ _|refine blk_drew ?_|refine blk_alloc ?_ _));refine blk_far ?_ NB120001_120003.out _;(with_reducible repeat (first|refine blk_drewN ?_ _|refine blk_drew ?_|refine blk_alloc ?_ _));refine blk_far ?_ NB120001_120003.out _;(with_reducible repeat (first|refine blk_drewN ?_ _|refine blk_drew ?_|refine blk_alloc ?_ _));exact BK120001.out) hb);have n2_:=zk (blk_below (g:=gb120002) (o:=.cells #[.int .i64 0,.string (⟨#[]⟩:ByteArray),.slice none 0 0] 65 (0,0)) za25 hb);have n3_:=zk (blk_below (g:=gb120003) (o:=.cells #[.int .i64 a0_0,.string a0_1,.slice none 0 0] 65 (0,0)) za20 hb);have n4_:=zk (below_step za3 hb);clear BK120001;clear BK120002;clear BK120003;clear HB;have HO120006:=n0_;have BK120001:=n1_;have BK120002:=n2_;have BK120003:=n3_;have HB:=n4_;clear n0_ n1_ n2_ n3_ n4_;(try clear hb);(try clear hb2);(try clear hk);(try clear hi);(try clear ho0);obtain ⟨Ao12,co12,eo12⟩:=Kd.R_slice HO120006.out;subst eo12;obtain ⟨hcz13_0,hcz13_1,hcz13_2,hfz13_0,hfz13_1,hfz13_2⟩:=blk3 BK120003.out;obtain ⟨hcz14_0,hcz14_1,hcz14_2,hfz14_0,hfz14_1,hfz14_2⟩:=blk3 BK120002.out))
 refine bodyPost_ret (results_cell_row rfl _ _ gb120002 65 #[.int .i64 a0_0,.string a0_1,.slice Ao12 t120004.length co12] (0,0) _ rfl (by (with_reducible repeat (first|refine blk_drewN ?_ _|refine blk_drew ?_|refine blk_alloc ?_ _));refine blk_put (cs:=#[.int .i64 a0_0,.string a0_1,.slice none 0 0]) ?_ 2 _ rfl;(with_reducible repeat (first|refine blk_drewN ?_ _|refine blk_drew ?_|refine blk_alloc ?_ _));refine blk_put (cs:=#[.int .i64 a0_0,.string (⟨#[]⟩:ByteArray),.slice none 0 0]) ?_ 1 _ rfl;(with_reducible repeat (first|refine blk_drewN ?_ _|refine blk_drew ?_|refine blk_alloc ?_ _));refine blk_put (cs:=#[.int .i64 0,.string (⟨#[]⟩:ByteArray),.slice none 0 0]) ?_ 0 _ rfl;(with_reducible repeat (first|refine blk_drewN ?_ _|refine blk_drew ?_|refine blk_alloc ?_ _));refine blk_far ?_ NB120002_120003.out _;(with_reducible repeat (first|refine blk_drewN ?_ _|refine blk_drew ?_|refine blk_alloc ?_ _));exact BK120002.out) Tryz.underlying65 rfl (by kernel_rfl)) rfl ?_
 exact ⟨_,za6,by (with_reducible repeat (first|apply Kd.R_alloc|apply Kd.R_drewN|apply Kd.R_drew));exact Kd.R_mono (Kd.R_far (p:=⟨gb120002,2,none⟩) (Kd.R_far (p:=⟨gb120002,1,none⟩) (Kd.R_far (p:=⟨gb120002,0,none⟩) (Kd.R_far (p:=⟨gb120003,2,none⟩) (Kd.R_mono (Kd.R_mono HO120006.out (fun k_ hk=>(⟨hk,hk.2⟩:_∧k_ ≠ gb120003))) (fun k_ hk=>(⟨hk,hk.1.1.2⟩:_∧k_ ≠ gb120002))) (fun _ hk=>hk.1.2) (.slice Ao12 t120004.length co12)) (fun _ hk=>hk.2) (.int .i64 a0_0)) (fun _ hk=>hk.2) (.string a0_1)) (fun _ hk=>hk.2) (.slice Ao12 t120004.length co12)) (fun _ hk=>trivial),za3⟩
theorem laws_toRegexG.monog (gF gF2:Nat→Int→ByteArray→List (S101)→Option (Int × ByteArray × (List (S65)))) (hg:∀ b0 b1 b2 k,LeO (gF k b0 b1 b2) (gF2 k b0 b1 b2)):∀ a0 a1 a2 k,LeO (laws_toRegexG.f gF k a0 a1 a2) (laws_toRegexG.f gF2 k a0 a1 a2):=by
 intro a0 a1 a2 k
 unfold laws_toRegexG.f
 repeat' first
  | (with_reducible exact laws_toRegexSG.monog gF gF2 hg _ _)
  | (with_reducible exact LeO.refl _)
  | (with_reducible exact LeO.none _)
  | (with_reducible refine LeO.ite ?_ ?_)
  | (with_reducible refine LeO.bind ?_ (fun _=>?_))
  | exact laws_toRegexSG.monog gF gF2 hg _ _
def laws_toRegex.f:Nat→Int→ByteArray→List (S101)→Option (Int × ByteArray × (List (S65)))
 | 0,_,_,_=>none
 | K+1,a0_,a1_,a2_=>laws_toRegexG.f (fun _=>laws_toRegex.f K) K a0_ a1_ a2_
theorem laws_toRegex.mono:∀ a0 a1 a2 k,LeO (laws_toRegex.f k a0 a1 a2) (laws_toRegex.f (k+1) a0 a1 a2):=by
 intro a0_ a1_ a2_ k
 induction k generalizing a0_ a1_ a2_ with
 | zero=>exact LeO.none _
 | succ K ih =>
  intro r h
  have h1:=laws_toRegexG.monog (fun _=>laws_toRegex.f K) (fun _=>laws_toRegex.f (K+1)) (fun a0_ a1_ a2_ k=>ih a0_ a1_ a2_) a0_ a1_ a2_ K r h
  exact laws_toRegexG.mono (fun _=>laws_toRegex.f (K+1)) (fun a0_ a1_ a2_ k=>LeO.refl _) a0_ a1_ a2_ K r h1
theorem laws_toRegex.calls (k:Nat) (a0_0:Int) (a0_1:ByteArray) (A0_2:Option Addr) (c0_2:Nat) (l0_2:List (S101)) (r1:Int) (r2:ByteArray) (r3:List (S65)) (w:World) (hr0_2:Kd.C k101 w A0_2 l0_2.length l0_2) (hc0_2:l0_2.length≤c0_2) (h:laws_toRegex.f k a0_0 a0_1 l0_2=some (r1,r2,r3)) :
  Calls Tryz.prog 120 #[.agg #[.int .i64 a0_0,.string a0_1,.slice A0_2 l0_2.length c0_2]] w fun e w'=>∃ v2_:Value,e = .returned (.agg #[.int .i64 r1,.string r2,v2_])∧Kd.R k65 65 w' w.heap.size (fun _=>True) v2_ r3∧Below w.heap.size w w':=by
 induction k generalizing a0_0 a0_1 A0_2 c0_2 l0_2 r1 r2 r3 w hr0_2 hc0_2 with
 | zero=>exact absurd h (by simp [laws_toRegex.f])
 | succ K ih=>exact laws_toRegexG.calls (fun _=>laws_toRegex.f K) (fun k a0_0 a0_1 A0_2 c0_2 l0_2 r1 r2 r3 w hr0_2 hc0_2 h=>ih a0_0 a0_1 A0_2 c0_2 l0_2 r1 r2 r3 w hr0_2 hc0_2 h) K a0_0 a0_1 A0_2 c0_2 l0_2 r1 r2 r3 w hr0_2 hc0_2 h
def laws_toRegexS.f (k:Nat) (l0:List (S101)):Option ((List (S65))):=laws_toRegexSG.f laws_toRegex.f k l0
theorem laws_toRegexS.mono:∀ a0 k,LeO (laws_toRegexS.f k a0) (laws_toRegexS.f (k+1) a0):=laws_toRegexSG.mono laws_toRegex.f laws_toRegex.mono
theorem laws_toRegexS.calls (k:Nat) (A0:Option Addr) (c0:Nat) (l0:List (S101)) (r:List (S65)) (w:World) (hr0:Kd.C k101 w A0 l0.length l0) (hc0:l0.length≤c0) (h:laws_toRegexS.f k l0=some r) :
 Calls Tryz.prog 136 #[.slice A0 l0.length c0] w fun e w'=>∃ v0_:Value,e = .returned (v0_)∧Kd.R k65 65 w' w.heap.size (fun _=>True) v0_ r∧Below w.heap.size w w':=laws_toRegexSG.calls laws_toRegex.f laws_toRegex.calls k A0 c0 l0 r w hr0 hc0 h
def laws_eqRegexSG.l0 (gF:Nat→Int→ByteArray→List (S65)→Int→ByteArray→List (S65)→Option (Bool)):Nat→List (S65)→List (S65)→Int→Option (Bool)
 | 0,_,_,_=>none
 | k+1,x0,x1,x5=>if x5 < (x0.length:Int) then (if 0≤x5 then (if x5 < (x1.length:Int) then ((gF k ((rd_T65 x0 x5).f0) ((rd_T65 x0 x5).f1) ((rd_T65 x0 x5).f2) ((rd_T65 x1 x5).f0) ((rd_T65 x1 x5).f1) ((rd_T65 x1 x5).f2)).bind fun t137003=>(if t137003=true then (laws_eqRegexSG.l0 gF k x0 x1 (wrap64 (x5+1))) else (some false))) else (none)) else (none)) else (some true)
def laws_eqRegexSG.f (gF:Nat→Int→ByteArray→List (S65)→Int→ByteArray→List (S65)→Option (Bool)) (k:Nat) (l0:List (S65)) (l1:List (S65)):Option (Bool):=if (l0.length:Int)=(l1.length:Int) then (laws_eqRegexSG.l0 gF k l0 l1 0) else (some false)
theorem laws_eqRegexSG.mono_l (gF:Nat→Int→ByteArray→List (S65)→Int→ByteArray→List (S65)→Option (Bool)) (gM:∀ a0 a1 a2 a3 a4 a5 k,LeO (gF k a0 a1 a2 a3 a4 a5) (gF (k+1) a0 a1 a2 a3 a4 a5)):∀ k,(∀ y0 y1 y2,LeO (laws_eqRegexSG.l0 gF k y0 y1 y2) (laws_eqRegexSG.l0 gF (k+1) y0 y1 y2))
 | 0=>fun _ _ _ r h=>by simp [laws_eqRegexSG.l0] at h
 | k+1=>by
  have ih0:=laws_eqRegexSG.mono_l gF gM k
  ·intro y0 y1 y2
   unfold laws_eqRegexSG.l0
   repeat' first
   | with_reducible first|exact ih0 _ _ _|exact gM _ _ _ _ _ _ _|exact LeO.refl _|exact LeO.none _|refine LeO.ite ?_ ?_|refine LeO.bind ?_ (fun _=>?_)
theorem laws_eqRegexSG.mono (gF:Nat→Int→ByteArray→List (S65)→Int→ByteArray→List (S65)→Option (Bool)) (gM:∀ a0 a1 a2 a3 a4 a5 k,LeO (gF k a0 a1 a2 a3 a4 a5) (gF (k+1) a0 a1 a2 a3 a4 a5)):∀ a0 a1 k,LeO (laws_eqRegexSG.f gF k a0 a1) (laws_eqRegexSG.f gF (k+1) a0 a1):=by
 intro a0 a1 k
 have ih0:=laws_eqRegexSG.mono_l gF gM k
 unfold laws_eqRegexSG.f
 repeat' first
  | with_reducible first|exact ih0 _ _ _|exact gM _ _ _ _ _ _ _|exact LeO.refl _|exact LeO.none _|refine LeO.ite ?_ ?_|refine LeO.bind ?_ (fun _=>?_)
def laws_eqRegexSG.T6:Bool × List (List Nat × List Nat):=(true,[([],[]),([],[]),([0,1],[0,1]),([2],[2]),([],[]),([],[]),([4,5],[4,5]),([6],[6]),([3,7],[3,7]),([8],[8])])
def laws_eqRegexSG.B6:List Nat:=[0,0,3,7,0,0,48,112,255,511]
theorem laws_eqRegexSG.tab6:rtab .any (opsOf Tryz.f137 6)=laws_eqRegexSG.T6:=by kernel_rfl
theorem laws_eqRegexSG.bits6:waitsOk laws_eqRegexSG.T6.2 laws_eqRegexSG.B6=true:=by kernel_rfl
theorem laws_eqRegexSG.calls (gF:Nat→Int→ByteArray→List (S65)→Int→ByteArray→List (S65)→Option (Bool)) (gC:∀ (k:Nat) (a0_0:Int) (a0_1:ByteArray) (A0_2:Option Addr) (c0_2:Nat) (l0_2:List (S65)) (a1_0:Int) (a1_1:ByteArray) (A1_2:Option Addr) (c1_2:Nat) (l1_2:List (S65)) (r:Bool) (w:World) (hr0_2:Kd.C k65 w A0_2 l0_2.length l0_2) (hc0_2:l0_2.length≤c0_2) (hr1_2:Kd.C k65 w A1_2 l1_2.length l1_2) (hc1_2:l1_2.length≤c1_2) (h:gF k a0_0 a0_1 l0_2 a1_0 a1_1 l1_2=some r),Calls Tryz.prog 122 #[.agg #[.int .i64 a0_0,.string a0_1,.slice A0_2 l0_2.length c0_2],.agg #[.int .i64 a1_0,.string a1_1,.slice A1_2 l1_2.length c1_2]] w fun e w'=>e = .returned (.bool r)∧Below w.heap.size w w') (k:Nat) (A0:Option Addr) (c0:Nat) (l0:List (S65)) (A1:Option Addr) (c1:Nat) (l1:List (S65)) (r:Bool) (w:World) (hr0:Kd.C k65 w A0 l0.length l0) (hc0:l0.length≤c0) (hr1:Kd.C k65 w A1 l1.length l1) (hc1:l1.length≤c1) (h:laws_eqRegexSG.f gF k l0 l1=some r) :
  Calls Tryz.prog 137 #[.slice A0 l0.length c0,.slice A1 l1.length c1] w fun e w'=>e = .returned (.bool r)∧Below w.heap.size w w':=by
 have hu65:=Tryz.underlying65
 have HR0:=zk hr0
 have HC0:=zk hc0
 clear hr0 hc0
 have HR1:=zk hr1
 have HC1:=zk hc1
 clear hr1 hc1
 have HB:=zk (Below.refl w.heap.size w)
 have H:(if (l0.length:Int)=(l1.length:Int) then (laws_eqRegexSG.l0 gF k l0 l1 0) else (some false))=some r:=h
 clear h
 by_cases c3:(l0.length:Int)=(l1.length:Int)
 ·rw [if_pos c3] at H
  have c3b0:((l0.length:Int) == (l1.length:Int))=true:=beq_iff_eq.mpr c3
  have c3b1:((l0.length:Int) != (l1.length:Int))=false:=bne_eq_false_iff_eq.mpr c3
  have c3b2:(l0.length == l1.length)=true:=by first|simpa using c3|(simp at c3 ⊢;omega)
  clear c3
  have H':=zk H
  clear H
  go_enter Tryz.func137,Tryz.ntmps137
  go_wp2
  first|go_loopg [5] k (fun kq v5 w'=>∃ (x5_1:Int),v5 = .int .i64 x5_1∧Aside0 (laws_eqRegexSG.l0 gF kq l0 l1 x5_1=some r)∧Aside0 (kq≤k)∧Aside0 (Below w.heap.size w w'))|(simp only [Act.put,zt,zv,zu];go_loopg [5] k (fun kq v5 w'=>∃ (x5_1:Int),v5 = .int .i64 x5_1∧Aside0 (laws_eqRegexSG.l0 gF kq l0 l1 x5_1=some r)∧Aside0 (kq≤k)∧Aside0 (Below w.heap.size w w')))
  case atStart=>exact ⟨(0),za7,H',⟨Nat.le_refl _⟩,⟨za3⟩⟩
  case round =>
   clear H'
   try clear c3
   try clear c3b0
   try clear c3b1
   try clear c3b2
   obtain ⟨x5_1,rfl,HA,HK1,HB⟩:=hrel
   cases gk with
   | zero=>exact absurd HA.out (by simp [laws_eqRegexSG.l0])
   | succ k1 =>
    have H:=HA.out
    clear HA
    simp only [laws_eqRegexSG.l0] at H
    by_cases c4:x5_1 < (l0.length:Int)
    rw [if_pos c4] at H
    have c4b0:decide (x5_1 < (l0.length:Int))=true:=decide_eq_true c4
    clear c4
    by_cases c5:0≤x5_1
    rw [if_pos c5] at H
    have c5b0:decide (0≤x5_1)=true:=decide_eq_true c5
    clear c5
    by_cases c6:x5_1 < (l1.length:Int)
    rw [if_pos c6] at H
    have c6b0:decide (x5_1 < (l1.length:Int))=true:=decide_eq_true c6
    clear c6
    replace H:=zo H
    obtain ⟨t137003,A70,H⟩:=H
    replace H:(if t137003=true then (laws_eqRegexSG.l0 gF k1 l0 l1 (wrap64 (x5_1+1))) else (some false))=some r:=H
    have A7:=zk A70
    clear A70
    by_cases c8:t137003=true
    ·subst c8
     have H1:(laws_eqRegexSG.l0 gF k1 l0 l1 (wrap64 (x5_1+1)))=some r:=by rw [if_pos rfl] at H;exact H
     clear H
     have H:=H1
     clear H1
     have H':=zk H
     clear H
     try go_wp2
     have n0_:=zk (below_drew1 HB.out)
     clear HB
     have HB:=n0_
     clear n0_
     have p137001:0≤(x5_1:Int):=of_decide_eq_true za8
     have q137001:x5_1 < (l0.length:Int):=of_decide_eq_true za8
     obtain ⟨ad137001,A137001_2,c137001_2,e137001,hx137001_0,hx137001_1,hx137001_2,hl137001_2,hi137001_2⟩:=at_T65 HR0.out x5_1 p137001 q137001
     have hw137001_2:=hx137001_2
     have hw137001_1:=hx137001_1
     have hw137001_0:=hx137001_0
     cases e137001
     replace hx137001_0:=zx HB.out hx137001_0
     replace hx137001_1:=zx HB.out hx137001_1
     replace hx137001_2:=zx HB.out hx137001_2
     have HR137001_2:=zk hi137001_2
     have HC137001_2:=zk hl137001_2
     clear hi137001_2 hl137001_2
     replace p137001:=eq_true p137001
     replace q137001:=eq_true q137001
     have p137002:0≤(x5_1:Int):=of_decide_eq_true za8
     have q137002:x5_1 < (l1.length:Int):=of_decide_eq_true za8
     obtain ⟨ad137002,A137002_2,c137002_2,e137002,hx137002_0,hx137002_1,hx137002_2,hl137002_2,hi137002_2⟩:=at_T65 HR1.out x5_1 p137002 q137002
     have hw137002_2:=hx137002_2
     have hw137002_1:=hx137002_1
     have hw137002_0:=hx137002_0
     cases e137002
     replace hx137002_0:=zx HB.out hx137002_0
     replace hx137002_1:=zx HB.out hx137002_1
     replace hx137002_2:=zx HB.out hx137002_2
     have HR137002_2:=zk hi137002_2
     have HC137002_2:=zk hl137002_2
     clear hi137002_2 hl137002_2
     replace p137002:=eq_true p137002
     replace q137002:=eq_true q137002
     refine start_ (n:=10) (S:=fun w'=>w'.cell? (ad137001.add ((x5_1).toNat * 3))=some (.int .i64 ((rd_T65 l0 x5_1).f0))∧w'.cell? ⟨(ad137001.add ((x5_1).toNat * 3)).block,(ad137001.add ((x5_1).toNat * 3)).off+1,none⟩=some (.string ((rd_T65 l0 x5_1).f1))∧w'.cell? ⟨(ad137001.add ((x5_1).toNat * 3)).block,(ad137001.add ((x5_1).toNat * 3)).off+2,none⟩=some (.slice A137001_2 ((rd_T65 l0 x5_1).f2).length c137001_2)∧w'.cell? (ad137002.add ((x5_1).toNat * 3))=some (.int .i64 ((rd_T65 l1 x5_1).f0))∧w'.cell? ⟨(ad137002.add ((x5_1).toNat * 3)).block,(ad137002.add ((x5_1).toNat * 3)).off+1,none⟩=some (.string ((rd_T65 l1 x5_1).f1))∧w'.cell? ⟨(ad137002.add ((x5_1).toNat * 3)).block,(ad137002.add ((x5_1).toNat * 3)).off+2,none⟩=some (.slice A137002_2 ((rd_T65 l1 x5_1).f2).length c137002_2)) (ds:=[]) #[false,false,false,false,false,false,false,false,false,false] (by kernel_rfl) rfl rfl ⟨((HB.out.cell (World.block_lt_of_cell? w _ hw137001_0)).trans hw137001_0),((HB.out.cell (World.block_lt_of_cell? w _ hw137001_1)).trans hw137001_1),((HB.out.cell (World.block_lt_of_cell? w _ hw137001_2)).trans hw137001_2),((HB.out.cell (World.block_lt_of_cell? w _ hw137002_0)).trans hw137002_0),((HB.out.cell (World.block_lt_of_cell? w _ hw137002_1)).trans hw137002_1),((HB.out.cell (World.block_lt_of_cell? w _ hw137002_2)).trans hw137002_2)⟩ (fun hHeld=>?_);refine with_tabW laws_eqRegexSG.tab6 laws_eqRegexSG.bits6 (fun HT_ HW_=>?_)
     generalize wr.drew=w9 at HB HR137001_2 HR137002_2 hx137001_0 hx137001_1 hx137001_2 hx137002_0 hx137002_1 hx137002_2 hHeld ⊢
     refine pure_ (i:=0) (N:=some 17) (v:=?_) (a':=?_) #[true,false,false,false,false,false,false,false,false,false] rfl rfl (any_of HT_.out (by kernel_rfl)) (fun _ _ _ h=>h) (Or.inl ⟨by rfl,?_⟩) ?_ ?_
     rotate_left
     ·intro w'
      go_simp
      exact zr1
     rotate_left
     ·simp only [Act.put,zt,zu,zv,i64_w,i32_w]
      rfl
     refine pure_ (i:=1) (N:=some 18) (v:=?_) (a':=?_) #[true,true,false,false,false,false,false,false,false,false] rfl rfl (any_of HT_.out (by kernel_rfl)) (fun _ _ _ h=>h) (Or.inl ⟨by rfl,?_⟩) ?_ ?_
     rotate_left
     ·intro w'
      go_simp
      exact zr1
     rotate_left
     ·simp only [Act.put,zt,zu,zv,i64_w,i32_w]
      rfl
     refine pure_ (i:=2) (N:=some 19) (v:=?_) (a':=?_) #[true,true,true,false,false,false,false,false,false,false] rfl rfl (any_of HT_.out (by kernel_rfl)) (fun _ _ _ h=>h) (Or.inl ⟨by rfl,?_⟩) ?_ ?_
     rotate_left
     ·intro w'
      go_simp
      exact zr1
     rotate_left
     ·simp only [Act.put,zt,zu,zv,i64_w,i32_w]
      rfl
     refine pure_ (i:=4) (N:=some 21) (v:=?_) (a':=?_) #[true,true,true,false,true,false,false,false,false,false] rfl rfl (any_of HT_.out (by kernel_rfl)) (fun _ _ _ h=>h) (Or.inl ⟨by rfl,?_⟩) ?_ ?_
     rotate_left
     ·intro w'
      go_simp
      exact zr1
     rotate_left
     ·simp only [Act.put,zt,zu,zv,i64_w,i32_w]
      rfl
     refine pure_ (i:=5) (N:=some 22) (v:=?_) (a':=?_) #[true,true,true,false,true,true,false,false,false,false] rfl rfl (any_of HT_.out (by kernel_rfl)) (fun _ _ _ h=>h) (Or.inl ⟨by rfl,?_⟩) ?_ ?_
     rotate_left
     ·intro w'
      go_simp
      exact zr1
     rotate_left
     ·simp only [Act.put,zt,zu,zv,i64_w,i32_w]
      rfl
     refine pure_ (i:=6) (N:=some 23) (v:=?_) (a':=?_) #[true,true,true,false,true,true,true,false,false,false] rfl rfl (any_of HT_.out (by kernel_rfl)) (fun _ _ _ h=>h) (Or.inl ⟨by rfl,?_⟩) ?_ ?_
     rotate_left
     ·intro w'
      go_simp
      exact zr1
     rotate_left
     ·simp only [Act.put,zt,zu,zv,i64_w,i32_w]
      rfl
     refine take_ (i:=3) (N:=some 20) (v:=?_) (a':=?_) #[true,true,true,true,true,true,true,false,false,false] rfl rfl (take_ofW HT_.out HW_.out (by kernel_rfl)) (fun _ _ _ h=>h) (Or.inl ⟨by rfl,?_⟩) hHeld ?_ ?_
     rotate_left
     ·rintro w' ⟨s0,s1,s2,s3,s4,s5⟩
      go_simp
      exact zr1
     rotate_left
     ·simp only [Act.put,zt,zu,zv,i64_w,i32_w]
      rfl
     refine take_ (i:=7) (N:=some 24) (v:=?_) (a':=?_) #[true,true,true,true,true,true,true,true,false,false] rfl rfl (take_ofW HT_.out HW_.out (by kernel_rfl)) (fun _ _ _ h=>h) (Or.inl ⟨by rfl,?_⟩) hHeld ?_ ?_
     rotate_left
     ·rintro w' ⟨s0,s1,s2,s3,s4,s5⟩
      go_simp
      exact zr1
     rotate_left
     ·simp only [Act.put,zt,zu,zv,i64_w,i32_w]
      rfl
     refine one_ (i:=8) (N:=some 25) #[true,true,true,true,true,true,true,true,true,false] rfl rfl (one_of HT_.out (by kernel_rfl)) (by decide) (fun K hK=>?_)
     refine goes_ Tryz.func122 (by kernel_rfl) rfl #[.agg #[.int .i64 ((rd_T65 l0 x5_1).f0),.string ((rd_T65 l0 x5_1).f1),.slice A137001_2 ((rd_T65 l0 x5_1).f2).length c137001_2],.agg #[.int .i64 ((rd_T65 l1 x5_1).f0),.string ((rd_T65 l1 x5_1).f1),.slice A137002_2 ((rd_T65 l1 x5_1).f2).length c137002_2]] (by rfl) rfl rfl za4 ?_
     with_reducible refine (gC k1 ((rd_T65 l0 x5_1).f0) ((rd_T65 l0 x5_1).f1) _ _ ((rd_T65 l0 x5_1).f2) ((rd_T65 l1 x5_1).f0) ((rd_T65 l1 x5_1).f1) _ _ ((rd_T65 l1 x5_1).f2) true _ ?side1 ?side2 ?side3 ?side4 A7.out).mono ?_
     (case side1=>repeat (first|exact (Kd.C_below HR137001_2.out HB.out)|(with_reducible refine Kd.C_alloc ?_ _)|(with_reducible refine Kd.C_drewN ?_ _)|(with_reducible refine Kd.C_drew ?_)))
     (case side2=>exact HC137001_2.out)
     (case side3=>repeat (first|exact (Kd.C_below HR137002_2.out HB.out)|(with_reducible refine Kd.C_alloc ?_ _)|(with_reducible refine Kd.C_drewN ?_ _)|(with_reducible refine Kd.C_drew ?_)))
     (case side4=>exact HC137002_2.out)
     rintro e w10 ⟨rfl,hb⟩
     refine ⟨_,rfl,?_⟩
     have n0_:=zk (below_step za3 hb)
     clear HB
     have HB:=n0_
     clear n0_
     (try clear hb)
     (try clear hb2)
     (try clear hk)
     (try clear hi)
     refine hK.out _ _ ⟨((HB.out.cell (World.block_lt_of_cell? w _ hw137001_0)).trans hw137001_0),((HB.out.cell (World.block_lt_of_cell? w _ hw137001_1)).trans hw137001_1),((HB.out.cell (World.block_lt_of_cell? w _ hw137001_2)).trans hw137001_2),((HB.out.cell (World.block_lt_of_cell? w _ hw137002_0)).trans hw137002_0),((HB.out.cell (World.block_lt_of_cell? w _ hw137002_1)).trans hw137002_1),((HB.out.cell (World.block_lt_of_cell? w _ hw137002_2)).trans hw137002_2)⟩ (fun hHeld=>?_)
     clear hK K
     refine norm_ (a':=?_) ?_ ?_
     rotate_left
     ·show Act.put _ (some 25) _=_
      simp only [Act.put,zt,zu,zv,i64_w,i32_w]
      rfl
     refine pure_ (i:=9) (N:=some 26) (v:=?_) (a':=?_) #[true,true,true,true,true,true,true,true,true,true] rfl rfl (any_of HT_.out (by kernel_rfl)) (fun _ _ _ h=>h) (Or.inl ⟨by rfl,?_⟩) ?_ ?_
     rotate_left
     ·intro w'
      go_simp
      exact zr1
     rotate_left
     ·simp only [Act.put,zt,zu,zv,i64_w,i32_w]
      rfl
     refine done_ (done_of HT_.out (by kernel_rfl)) ?_
     try go_wp2
     go_roundg k1
     case measure=>have:=HK1.out;omega
     case rel=>exact ⟨(wrap64 (x5_1+1)),za7,H',⟨za15⟩,⟨za3⟩⟩
    ·replace c8:=Bool.eq_false_iff.mpr c8
     subst c8
     have H1:(some false)=some r:=by rw [if_neg (show ¬ (false=true) by decide)] at H;exact H
     clear H
     have H:=H1
     clear H1
     obtain rfl:=zi H
     try go_wp2
     have n0_:=zk (below_drew1 HB.out)
     clear HB
     have HB:=n0_
     clear n0_
     have p137001:0≤(x5_1:Int):=of_decide_eq_true za8
     have q137001:x5_1 < (l0.length:Int):=of_decide_eq_true za8
     obtain ⟨ad137001,A137001_2,c137001_2,e137001,hx137001_0,hx137001_1,hx137001_2,hl137001_2,hi137001_2⟩:=at_T65 HR0.out x5_1 p137001 q137001
     have hw137001_2:=hx137001_2
     have hw137001_1:=hx137001_1
     have hw137001_0:=hx137001_0
     cases e137001
     replace hx137001_0:=zx HB.out hx137001_0
     replace hx137001_1:=zx HB.out hx137001_1
     replace hx137001_2:=zx HB.out hx137001_2
     have HR137001_2:=zk hi137001_2
     have HC137001_2:=zk hl137001_2
     clear hi137001_2 hl137001_2
     replace p137001:=eq_true p137001
     replace q137001:=eq_true q137001
     have p137002:0≤(x5_1:Int):=of_decide_eq_true za8
     have q137002:x5_1 < (l1.length:Int):=of_decide_eq_true za8
     obtain ⟨ad137002,A137002_2,c137002_2,e137002,hx137002_0,hx137002_1,hx137002_2,hl137002_2,hi137002_2⟩:=at_T65 HR1.out x5_1 p137002 q137002
     have hw137002_2:=hx137002_2
     have hw137002_1:=hx137002_1
     have hw137002_0:=hx137002_0
     cases e137002
     replace hx137002_0:=zx HB.out hx137002_0
     replace hx137002_1:=zx HB.out hx137002_1
     replace hx137002_2:=zx HB.out hx137002_2
     have HR137002_2:=zk hi137002_2
     have HC137002_2:=zk hl137002_2
     clear hi137002_2 hl137002_2
     replace p137002:=eq_true p137002
     replace q137002:=eq_true q137002
     refine start_ (n:=10) (S:=fun w'=>w'.cell? (ad137001.add ((x5_1).toNat * 3))=some (.int .i64 ((rd_T65 l0 x5_1).f0))∧w'.cell? ⟨(ad137001.add ((x5_1).toNat * 3)).block,(ad137001.add ((x5_1).toNat * 3)).off+1,none⟩=some (.string ((rd_T65 l0 x5_1).f1))∧w'.cell? ⟨(ad137001.add ((x5_1).toNat * 3)).block,(ad137001.add ((x5_1).toNat * 3)).off+2,none⟩=some (.slice A137001_2 ((rd_T65 l0 x5_1).f2).length c137001_2)∧w'.cell? (ad137002.add ((x5_1).toNat * 3))=some (.int .i64 ((rd_T65 l1 x5_1).f0))∧w'.cell? ⟨(ad137002.add ((x5_1).toNat * 3)).block,(ad137002.add ((x5_1).toNat * 3)).off+1,none⟩=some (.string ((rd_T65 l1 x5_1).f1))∧w'.cell? ⟨(ad137002.add ((x5_1).toNat * 3)).block,(ad137002.add ((x5_1).toNat * 3)).off+2,none⟩=some (.slice A137002_2 ((rd_T65 l1 x5_1).f2).length c137002_2)) (ds:=[]) #[false,false,false,false,false,false,false,false,false,false] (by kernel_rfl) rfl rfl ⟨((HB.out.cell (World.block_lt_of_cell? w _ hw137001_0)).trans hw137001_0),((HB.out.cell (World.block_lt_of_cell? w _ hw137001_1)).trans hw137001_1),((HB.out.cell (World.block_lt_of_cell? w _ hw137001_2)).trans hw137001_2),((HB.out.cell (World.block_lt_of_cell? w _ hw137002_0)).trans hw137002_0),((HB.out.cell (World.block_lt_of_cell? w _ hw137002_1)).trans hw137002_1),((HB.out.cell (World.block_lt_of_cell? w _ hw137002_2)).trans hw137002_2)⟩ (fun hHeld=>?_);refine with_tabW laws_eqRegexSG.tab6 laws_eqRegexSG.bits6 (fun HT_ HW_=>?_)
     generalize wr.drew=w11 at HB HR137001_2 HR137002_2 hx137001_0 hx137001_1 hx137001_2 hx137002_0 hx137002_1 hx137002_2 hHeld ⊢
     refine pure_ (i:=0) (N:=some 17) (v:=?_) (a':=?_) #[true,false,false,false,false,false,false,false,false,false] rfl rfl (any_of HT_.out (by kernel_rfl)) (fun _ _ _ h=>h) (Or.inl ⟨by rfl,?_⟩) ?_ ?_
     rotate_left
     ·intro w'
      go_simp
      exact zr1
     rotate_left
     ·simp only [Act.put,zt,zu,zv,i64_w,i32_w]
      rfl
     refine pure_ (i:=1) (N:=some 18) (v:=?_) (a':=?_) #[true,true,false,false,false,false,false,false,false,false] rfl rfl (any_of HT_.out (by kernel_rfl)) (fun _ _ _ h=>h) (Or.inl ⟨by rfl,?_⟩) ?_ ?_
     rotate_left
     ·intro w'
      go_simp
      exact zr1
     rotate_left
     ·simp only [Act.put,zt,zu,zv,i64_w,i32_w]
      rfl
     refine pure_ (i:=2) (N:=some 19) (v:=?_) (a':=?_) #[true,true,true,false,false,false,false,false,false,false] rfl rfl (any_of HT_.out (by kernel_rfl)) (fun _ _ _ h=>h) (Or.inl ⟨by rfl,?_⟩) ?_ ?_
     rotate_left
     ·intro w'
      go_simp
      exact zr1
     rotate_left
     ·simp only [Act.put,zt,zu,zv,i64_w,i32_w]
      rfl
     refine pure_ (i:=4) (N:=some 21) (v:=?_) (a':=?_) #[true,true,true,false,true,false,false,false,false,false] rfl rfl (any_of HT_.out (by kernel_rfl)) (fun _ _ _ h=>h) (Or.inl ⟨by rfl,?_⟩) ?_ ?_
     rotate_left
     ·intro w'
      go_simp
      exact zr1
     rotate_left
     ·simp only [Act.put,zt,zu,zv,i64_w,i32_w]
      rfl
     refine pure_ (i:=5) (N:=some 22) (v:=?_) (a':=?_) #[true,true,true,false,true,true,false,false,false,false] rfl rfl (any_of HT_.out (by kernel_rfl)) (fun _ _ _ h=>h) (Or.inl ⟨by rfl,?_⟩) ?_ ?_
     rotate_left
     ·intro w'
      go_simp
      exact zr1
     rotate_left
     ·simp only [Act.put,zt,zu,zv,i64_w,i32_w]
      rfl
     refine pure_ (i:=6) (N:=some 23) (v:=?_) (a':=?_) #[true,true,true,false,true,true,true,false,false,false] rfl rfl (any_of HT_.out (by kernel_rfl)) (fun _ _ _ h=>h) (Or.inl ⟨by rfl,?_⟩) ?_ ?_
     rotate_left
     ·intro w'
      go_simp
      exact zr1
     rotate_left
     ·simp only [Act.put,zt,zu,zv,i64_w,i32_w]
      rfl
     refine take_ (i:=3) (N:=some 20) (v:=?_) (a':=?_) #[true,true,true,true,true,true,true,false,false,false] rfl rfl (take_ofW HT_.out HW_.out (by kernel_rfl)) (fun _ _ _ h=>h) (Or.inl ⟨by rfl,?_⟩) hHeld ?_ ?_
     rotate_left
     ·rintro w' ⟨s0,s1,s2,s3,s4,s5⟩
      go_simp
      exact zr1
     rotate_left
     ·simp only [Act.put,zt,zu,zv,i64_w,i32_w]
      rfl
     refine take_ (i:=7) (N:=some 24) (v:=?_) (a':=?_) #[true,true,true,true,true,true,true,true,false,false] rfl rfl (take_ofW HT_.out HW_.out (by kernel_rfl)) (fun _ _ _ h=>h) (Or.inl ⟨by rfl,?_⟩) hHeld ?_ ?_
     rotate_left
     ·rintro w' ⟨s0,s1,s2,s3,s4,s5⟩
      go_simp
      exact zr1
     rotate_left
     ·simp only [Act.put,zt,zu,zv,i64_w,i32_w]
      rfl
     refine one_ (i:=8) (N:=some 25) #[true,true,true,true,true,true,true,true,true,false] rfl rfl (one_of HT_.out (by kernel_rfl)) (by decide) (fun K hK=>?_)
     refine goes_ Tryz.func122 (by kernel_rfl) rfl #[.agg #[.int .i64 ((rd_T65 l0 x5_1).f0),.string ((rd_T65 l0 x5_1).f1),.slice A137001_2 ((rd_T65 l0 x5_1).f2).length c137001_2],.agg #[.int .i64 ((rd_T65 l1 x5_1).f0),.string ((rd_T65 l1 x5_1).f1),.slice A137002_2 ((rd_T65 l1 x5_1).f2).length c137002_2]] (by rfl) rfl rfl za4 ?_
     with_reducible refine (gC k1 ((rd_T65 l0 x5_1).f0) ((rd_T65 l0 x5_1).f1) _ _ ((rd_T65 l0 x5_1).f2) ((rd_T65 l1 x5_1).f0) ((rd_T65 l1 x5_1).f1) _ _ ((rd_T65 l1 x5_1).f2) false _ ?side1 ?side2 ?side3 ?side4 A7.out).mono ?_
     (case side1=>repeat (first|exact (Kd.C_below HR137001_2.out HB.out)|(with_reducible refine Kd.C_alloc ?_ _)|(with_reducible refine Kd.C_drewN ?_ _)|(with_reducible refine Kd.C_drew ?_)))
     (case side2=>exact HC137001_2.out)
     (case side3=>repeat (first|exact (Kd.C_below HR137002_2.out HB.out)|(with_reducible refine Kd.C_alloc ?_ _)|(with_reducible refine Kd.C_drewN ?_ _)|(with_reducible refine Kd.C_drew ?_)))
     (case side4=>exact HC137002_2.out)
     rintro e w12 ⟨rfl,hb⟩
     refine ⟨_,rfl,?_⟩
     have n0_:=zk (below_step za3 hb)
     clear HB
     have HB:=n0_
     clear n0_
     (try clear hb)
     (try clear hb2)
     (try clear hk)
     (try clear hi)
     refine hK.out _ _ ⟨((HB.out.cell (World.block_lt_of_cell? w _ hw137001_0)).trans hw137001_0),((HB.out.cell (World.block_lt_of_cell? w _ hw137001_1)).trans hw137001_1),((HB.out.cell (World.block_lt_of_cell? w _ hw137001_2)).trans hw137001_2),((HB.out.cell (World.block_lt_of_cell? w _ hw137002_0)).trans hw137002_0),((HB.out.cell (World.block_lt_of_cell? w _ hw137002_1)).trans hw137002_1),((HB.out.cell (World.block_lt_of_cell? w _ hw137002_2)).trans hw137002_2)⟩ (fun hHeld=>?_)
     clear hK K
     refine norm_ (a':=?_) ?_ ?_
     rotate_left
     ·show Act.put _ (some 25) _=_
      simp only [Act.put,zt,zu,zv,i64_w,i32_w]
      rfl
     refine pure_ (i:=9) (N:=some 26) (v:=?_) (a':=?_) #[true,true,true,true,true,true,true,true,true,true] rfl rfl (any_of HT_.out (by kernel_rfl)) (fun _ _ _ h=>h) (Or.inl ⟨by rfl,?_⟩) ?_ ?_
     rotate_left
     ·intro w'
      go_simp
      exact zr1
     rotate_left
     ·simp only [Act.put,zt,zu,zv,i64_w,i32_w]
      rfl
     refine done_ (done_of HT_.out (by kernel_rfl)) ?_
     try go_wp2
     go_ret
     exact ⟨za6,za3⟩
    ·rw [if_neg c6] at H
     exact absurd H (by simp)
    ·rw [if_neg c5] at H
     exact absurd H (by simp)
    ·rw [if_neg c4] at H
     have c4b0:decide (x5_1 < (l0.length:Int))=false:=decide_eq_false c4
     clear c4
     obtain rfl:=zi H
     go_wp2
     go_ret
     exact ⟨za6,za3⟩
 ·rw [if_neg c3] at H
  have c3b0:((l0.length:Int) == (l1.length:Int))=false:=beq_eq_false_iff_ne.mpr c3
  have c3b1:((l0.length:Int) != (l1.length:Int))=true:=bne_iff_ne.mpr c3
  have c3b2:(l0.length == l1.length)=false:=by first|simpa using c3|(simp at c3 ⊢;omega)
  obtain rfl:=zi H
  go_enter Tryz.func137,Tryz.ntmps137
  go_wp2
  go_ret
  exact ⟨za6,za3⟩
theorem laws_eqRegexSG.mono_lg (gF gF2:Nat→Int→ByteArray→List (S65)→Int→ByteArray→List (S65)→Option (Bool)) (hg:∀ b0 b1 b2 b3 b4 b5 k,LeO (gF k b0 b1 b2 b3 b4 b5) (gF2 k b0 b1 b2 b3 b4 b5)):∀ k,(∀ y0 y1 y2,LeO (laws_eqRegexSG.l0 gF k y0 y1 y2) (laws_eqRegexSG.l0 gF2 k y0 y1 y2))
 | 0=>fun _ _ _ r h=>by simp [laws_eqRegexSG.l0] at h
 | k+1=>by
  have ih0:=laws_eqRegexSG.mono_lg gF gF2 hg k
  ·intro y0 y1 y2
   unfold laws_eqRegexSG.l0
   repeat' first
   | (with_reducible exact ih0 _ _ _)
   | (with_reducible exact hg _ _ _ _ _ _ _)
   | (with_reducible exact LeO.refl _)
   | (with_reducible exact LeO.none _)
   | (with_reducible refine LeO.ite ?_ ?_)
   | (with_reducible refine LeO.bind ?_ (fun _=>?_))
   | exact hg _ _ _ _ _ _ _
theorem laws_eqRegexSG.monog (gF gF2:Nat→Int→ByteArray→List (S65)→Int→ByteArray→List (S65)→Option (Bool)) (hg:∀ b0 b1 b2 b3 b4 b5 k,LeO (gF k b0 b1 b2 b3 b4 b5) (gF2 k b0 b1 b2 b3 b4 b5)):∀ a0 a1 k,LeO (laws_eqRegexSG.f gF k a0 a1) (laws_eqRegexSG.f gF2 k a0 a1):=by
 intro a0 a1 k
 have ih0:=laws_eqRegexSG.mono_lg gF gF2 hg k
 unfold laws_eqRegexSG.f
 repeat' first
  | (with_reducible exact ih0 _ _ _)
  | (with_reducible exact hg _ _ _ _ _ _ _)
  | (with_reducible exact LeO.refl _)
  | (with_reducible exact LeO.none _)
  | (with_reducible refine LeO.ite ?_ ?_)
  | (with_reducible refine LeO.bind ?_ (fun _=>?_))
  | exact hg _ _ _ _ _ _ _
def laws_eqRegexG.f (gF:Nat→Int→ByteArray→List (S65)→Int→ByteArray→List (S65)→Option (Bool)) (k:Nat) (a0_0:Int) (a0_1:ByteArray) (l0_2:List (S65)) (a1_0:Int) (a1_1:ByteArray) (l1_2:List (S65)):Option (Bool):=if a0_0=a1_0 then (if a0_1.toList=a1_1.toList then ((laws_eqRegexSG.f gF k l0_2 l1_2).bind fun t122003=>(if t122003=true then (some true) else (some false))) else (some false)) else (some false)
theorem laws_eqRegexG.mono (gF:Nat→Int→ByteArray→List (S65)→Int→ByteArray→List (S65)→Option (Bool)) (gM:∀ a0 a1 a2 a3 a4 a5 k,LeO (gF k a0 a1 a2 a3 a4 a5) (gF (k+1) a0 a1 a2 a3 a4 a5)):∀ a0 a1 a2 a3 a4 a5 k,LeO (laws_eqRegexG.f gF k a0 a1 a2 a3 a4 a5) (laws_eqRegexG.f gF (k+1) a0 a1 a2 a3 a4 a5):=by
 intro a0 a1 a2 a3 a4 a5 k
 unfold laws_eqRegexG.f
 repeat' first
  | with_reducible first|exact laws_eqRegexSG.mono gF gM _ _ _|exact LeO.refl _|exact LeO.none _|refine LeO.ite ?_ ?_|refine LeO.bind ?_ (fun _=>?_)
theorem laws_eqRegexG.calls (gF:Nat→Int→ByteArray→List (S65)→Int→ByteArray→List (S65)→Option (Bool)) (gC:∀ (k:Nat) (a0_0:Int) (a0_1:ByteArray) (A0_2:Option Addr) (c0_2:Nat) (l0_2:List (S65)) (a1_0:Int) (a1_1:ByteArray) (A1_2:Option Addr) (c1_2:Nat) (l1_2:List (S65)) (r:Bool) (w:World) (hr0_2:Kd.C k65 w A0_2 l0_2.length l0_2) (hc0_2:l0_2.length≤c0_2) (hr1_2:Kd.C k65 w A1_2 l1_2.length l1_2) (hc1_2:l1_2.length≤c1_2) (h:gF k a0_0 a0_1 l0_2 a1_0 a1_1 l1_2=some r),Calls Tryz.prog 122 #[.agg #[.int .i64 a0_0,.string a0_1,.slice A0_2 l0_2.length c0_2],.agg #[.int .i64 a1_0,.string a1_1,.slice A1_2 l1_2.length c1_2]] w fun e w'=>e = .returned (.bool r)∧Below w.heap.size w w') (k:Nat) (a0_0:Int) (a0_1:ByteArray) (A0_2:Option Addr) (c0_2:Nat) (l0_2:List (S65)) (a1_0:Int) (a1_1:ByteArray) (A1_2:Option Addr) (c1_2:Nat) (l1_2:List (S65)) (r:Bool) (w:World) (hr0_2:Kd.C k65 w A0_2 l0_2.length l0_2) (hc0_2:l0_2.length≤c0_2) (hr1_2:Kd.C k65 w A1_2 l1_2.length l1_2) (hc1_2:l1_2.length≤c1_2) (h:laws_eqRegexG.f gF k a0_0 a0_1 l0_2 a1_0 a1_1 l1_2=some r) :
   Calls Tryz.prog 122 #[.agg #[.int .i64 a0_0,.string a0_1,.slice A0_2 l0_2.length c0_2],.agg #[.int .i64 a1_0,.string a1_1,.slice A1_2 l1_2.length c1_2]] w fun e w'=>e = .returned (.bool r)∧Below w.heap.size w w':=by
 have hu65:=Tryz.underlying65
 have HR0_2:=zk hr0_2
 have HC0_2:=zk hc0_2
 clear hr0_2 hc0_2
 have HR1_2:=zk hr1_2
 have HC1_2:=zk hc1_2
 clear hr1_2 hc1_2
 have HB:=zk (Below.refl w.heap.size w)
 have H:(if a0_0=a1_0 then (if a0_1.toList=a1_1.toList then ((laws_eqRegexSG.f gF k l0_2 l1_2).bind fun t122003=>(if t122003=true then (some true) else (some false))) else (some false)) else (some false))=some r:=h
 clear h
 by_cases c3:a0_0=a1_0
 rw [if_pos c3] at H
 have c3b0:(a0_0 == a1_0)=true:=beq_iff_eq.mpr c3
 have c3b1:(a0_0 != a1_0)=false:=bne_eq_false_iff_eq.mpr c3
 clear c3
 by_cases c4:a0_1.toList=a1_1.toList
 rw [if_pos c4] at H
 have c4b0:(a0_1.toList == a1_1.toList)=true:=beq_iff_eq.mpr c4
 have c4b1:(a0_1.toList != a1_1.toList)=false:=bne_eq_false_iff_eq.mpr c4
 clear c4
 replace H:=zo H
 obtain ⟨t122003,A50,H⟩:=H
 replace H:(if t122003=true then (some true) else (some false))=some r:=H
 have A5:=zk A50
 clear A50
 by_cases c6:t122003=true
 subst c6
 have H1:(some true)=some r:=by rw [if_pos rfl] at H;exact H
 clear H
 have H:=H1
 clear H1
 rotate_left
 replace c6:=Bool.eq_false_iff.mpr c6
 subst c6
 have H1:(some false)=some r:=by rw [if_neg (show ¬ (false=true) by decide)] at H;exact H
 clear H
 have H:=H1
 clear H1
 rotate_left
 rw [if_neg c4] at H
 have c4b0:(a0_1.toList == a1_1.toList)=false:=beq_eq_false_iff_ne.mpr c4
 have c4b1:(a0_1.toList != a1_1.toList)=true:=bne_iff_ne.mpr c4
 rotate_left
 rw [if_neg c3] at H
 have c3b0:(a0_0 == a1_0)=false:=beq_eq_false_iff_ne.mpr c3
 have c3b1:(a0_0 != a1_0)=true:=bne_iff_ne.mpr c3
 rotate_left
 all_goals
  obtain rfl:=zi H
  go_enter Tryz.func122,Tryz.ntmps122
  go_wp2_with (first|((with_reducible refine gate_dst (N:=2) rfl ?_);refine zE (N:=2) (cs:=#[.int .i64 a0_0,.string a0_1,.slice A0_2 l0_2.length c0_2]) (t:=65) ?_;intro gb122001 hg w13 hbox hb;have n0_:=zk (below_step za3 hb);have n1_:=zk (hbox);have n2_:=zk (zs (w:=w) hg za3);have n3_:=zk (zs (w:=w) hg za3);clear HB;have HB:=n0_;have BK122001:=n1_;have GW122001:=n2_;have GE122001:=n3_;clear n0_ n1_ n2_ n3_;clear hb hbox hg)|((with_reducible refine gate_dst (N:=3) rfl ?_);refine zE (N:=3) (cs:=#[.int .i64 a1_0,.string a1_1,.slice A1_2 l1_2.length c1_2]) (t:=65) ?_;intro gb122002 hg w14 hbox hb;have n0_:=zk (zb BK122001.out hb);have n1_:=zk (below_step za3 hb);have n2_:=zk (hbox);have n3_:=zk (zs (w:=w) hg za3);have n4_:=zk (zs (w:=w) hg za3);have n5_:=zk ((by rw [hg];exact Nat.ne_of_lt (zl BK122001.out):gb122001 ≠ gb122002));have n6_:=zk ((by rw [hg];exact Nat.ne_of_gt (zl BK122001.out):gb122002 ≠ gb122001));clear BK122001;clear HB;have BK122001:=n0_;have HB:=n1_;have BK122002:=n2_;have GW122002:=n3_;have GE122002:=n4_;have NB122001_122002:=n5_;have NB122002_122001:=n6_;clear n0_ n1_ n2_ n3_ n4_ n5_ n6_;clear hb hbox hg;have hnb15:=NB122001_122002.out;have hnc15:=NB122002_122001.out;obtain ⟨hcz16_0,hcz16_1,hcz16_2,hfz16_0,hfz16_1,hfz16_2⟩:=blk3 BK122001.out;obtain ⟨hcz17_0,hcz17_1,hcz17_2,hfz17_0,hfz17_1,hfz17_2⟩:=blk3 BK122002.out)|((with_reducible refine gate_callee (f:=137) rfl ?_);refine goesL_ (some 19) rfl rfl Tryz.func137 (by kernel_rfl) rfl #[.slice A0_2 l0_2.length c0_2,.slice A1_2 l1_2.length c1_2] rfl za4 ?_;(with_reducible refine (laws_eqRegexSG.calls gF gC k _ _ l0_2 _ _ l1_2 _ _ ?side1 ?side2 ?side3 ?side4 A5.out).mono ?_);(case side1=>repeat (first|exact (Kd.C_below HR0_2.out HB.out)|(with_reducible refine Kd.C_alloc ?_ _)|(with_reducible refine Kd.C_drewN ?_ _)|(with_reducible refine Kd.C_drew ?_)));(case side2=>exact HC0_2.out);(case side3=>repeat (first|exact (Kd.C_below HR1_2.out HB.out)|(with_reducible refine Kd.C_alloc ?_ _)|(with_reducible refine Kd.C_drewN ?_ _)|(with_reducible refine Kd.C_drew ?_)));(case side4=>exact HC1_2.out);rintro e w18 ⟨rfl,hb⟩;refine ⟨_,rfl,?_⟩;have n0_:=zk (zb BK122001.out hb);have n1_:=zk (zb BK122002.out hb);have n2_:=zk (below_step za3 hb);clear BK122001;clear BK122002;clear HB;have BK122001:=n0_;have BK122002:=n1_;have HB:=n2_;clear n0_ n1_ n2_;(try clear hb);(try clear hb2);(try clear hk);(try clear hi)))
  go_ret
  exact ⟨za6,za3⟩
theorem laws_eqRegexG.monog (gF gF2:Nat→Int→ByteArray→List (S65)→Int→ByteArray→List (S65)→Option (Bool)) (hg:∀ b0 b1 b2 b3 b4 b5 k,LeO (gF k b0 b1 b2 b3 b4 b5) (gF2 k b0 b1 b2 b3 b4 b5)):∀ a0 a1 a2 a3 a4 a5 k,LeO (laws_eqRegexG.f gF k a0 a1 a2 a3 a4 a5) (laws_eqRegexG.f gF2 k a0 a1 a2 a3 a4 a5):=by
 intro a0 a1 a2 a3 a4 a5 k
 unfold laws_eqRegexG.f
 repeat' first
  | (with_reducible exact laws_eqRegexSG.monog gF gF2 hg _ _ _)
  | (with_reducible exact LeO.refl _)
  | (with_reducible exact LeO.none _)
  | (with_reducible refine LeO.ite ?_ ?_)
  | (with_reducible refine LeO.bind ?_ (fun _=>?_))
  | exact laws_eqRegexSG.monog gF gF2 hg _ _ _
def laws_eqRegex.f:Nat→Int→ByteArray→List (S65)→Int→ByteArray→List (S65)→Option (Bool)
 | 0,_,_,_,_,_,_=>none
 | K+1,a0_,a1_,a2_,a3_,a4_,a5_=>laws_eqRegexG.f (fun _=>laws_eqRegex.f K) K a0_ a1_ a2_ a3_ a4_ a5_
theorem laws_eqRegex.mono:∀ a0 a1 a2 a3 a4 a5 k,LeO (laws_eqRegex.f k a0 a1 a2 a3 a4 a5) (laws_eqRegex.f (k+1) a0 a1 a2 a3 a4 a5):=by
 intro a0_ a1_ a2_ a3_ a4_ a5_ k
 induction k generalizing a0_ a1_ a2_ a3_ a4_ a5_ with
 | zero=>exact LeO.none _
 | succ K ih =>
  intro r h
  have h1:=laws_eqRegexG.monog (fun _=>laws_eqRegex.f K) (fun _=>laws_eqRegex.f (K+1)) (fun a0_ a1_ a2_ a3_ a4_ a5_ k=>ih a0_ a1_ a2_ a3_ a4_ a5_) a0_ a1_ a2_ a3_ a4_ a5_ K r h
  exact laws_eqRegexG.mono (fun _=>laws_eqRegex.f (K+1)) (fun a0_ a1_ a2_ a3_ a4_ a5_ k=>LeO.refl _) a0_ a1_ a2_ a3_ a4_ a5_ K r h1
theorem laws_eqRegex.calls (k:Nat) (a0_0:Int) (a0_1:ByteArray) (A0_2:Option Addr) (c0_2:Nat) (l0_2:List (S65)) (a1_0:Int) (a1_1:ByteArray) (A1_2:Option Addr) (c1_2:Nat) (l1_2:List (S65)) (r:Bool) (w:World) (hr0_2:Kd.C k65 w A0_2 l0_2.length l0_2) (hc0_2:l0_2.length≤c0_2) (hr1_2:Kd.C k65 w A1_2 l1_2.length l1_2) (hc1_2:l1_2.length≤c1_2) (h:laws_eqRegex.f k a0_0 a0_1 l0_2 a1_0 a1_1 l1_2=some r) :
  Calls Tryz.prog 122 #[.agg #[.int .i64 a0_0,.string a0_1,.slice A0_2 l0_2.length c0_2],.agg #[.int .i64 a1_0,.string a1_1,.slice A1_2 l1_2.length c1_2]] w fun e w'=>e = .returned (.bool r)∧Below w.heap.size w w':=by
 induction k generalizing a0_0 a0_1 A0_2 c0_2 l0_2 a1_0 a1_1 A1_2 c1_2 l1_2 r w hr0_2 hc0_2 hr1_2 hc1_2 with
 | zero=>exact absurd h (by simp [laws_eqRegex.f])
 | succ K ih=>exact laws_eqRegexG.calls (fun _=>laws_eqRegex.f K) (fun k a0_0 a0_1 A0_2 c0_2 l0_2 a1_0 a1_1 A1_2 c1_2 l1_2 r w hr0_2 hc0_2 hr1_2 hc1_2 h=>ih a0_0 a0_1 A0_2 c0_2 l0_2 a1_0 a1_1 A1_2 c1_2 l1_2 r w hr0_2 hc0_2 hr1_2 hc1_2 h) K a0_0 a0_1 A0_2 c0_2 l0_2 a1_0 a1_1 A1_2 c1_2 l1_2 r w hr0_2 hc0_2 hr1_2 hc1_2 h
def laws_eqRegexS.f (k:Nat) (l0:List (S65)) (l1:List (S65)):Option (Bool):=laws_eqRegexSG.f laws_eqRegex.f k l0 l1
theorem laws_eqRegexS.mono:∀ a0 a1 k,LeO (laws_eqRegexS.f k a0 a1) (laws_eqRegexS.f (k+1) a0 a1):=laws_eqRegexSG.mono laws_eqRegex.f laws_eqRegex.mono
theorem laws_eqRegexS.calls (k:Nat) (A0:Option Addr) (c0:Nat) (l0:List (S65)) (A1:Option Addr) (c1:Nat) (l1:List (S65)) (r:Bool) (w:World) (hr0:Kd.C k65 w A0 l0.length l0) (hc0:l0.length≤c0) (hr1:Kd.C k65 w A1 l1.length l1) (hc1:l1.length≤c1) (h:laws_eqRegexS.f k l0 l1=some r) :
 Calls Tryz.prog 137 #[.slice A0 l0.length c0,.slice A1 l1.length c1] w fun e w'=>e = .returned (.bool r)∧Below w.heap.size w w':=laws_eqRegexSG.calls laws_eqRegex.f laws_eqRegex.calls k A0 c0 l0 A1 c1 l1 r w hr0 hc0 hr1 hc1 h
def laws_szIntS.f (l0:List Int) (a1:Int):Option (Int):=if (wrap64 (a1 - (l0.length:Int))) < 0 then (some (-1)) else (some (wrap64 (a1 - (l0.length:Int))))
theorem laws_szIntS.calls (A0:Option Addr) (c0:Nat) (l0:List Int) (a1:Int) (r:Int) (w:World) (hr0:Kd.C (Kd.int .i64) w A0 l0.length l0) (hc0:l0.length≤c0) (h:laws_szIntS.f l0 a1=some r) :
   Calls Tryz.prog 119 #[.slice A0 l0.length c0,.int .i64 a1] w fun e w'=>e = .returned (.int .i64 r)∧Drawn0 w w':=by
 have HR0:=zk hr0
 have HC0:=zk hc0
 clear hr0 hc0
 have H:(if (wrap64 (a1 - (l0.length:Int))) < 0 then (some (-1)) else (some (wrap64 (a1 - (l0.length:Int)))))=some r:=h
 clear h
 by_cases c3:(wrap64 (a1 - (l0.length:Int))) < 0
 rw [if_pos c3] at H
 have c3b0:decide ((wrap64 (a1 - (l0.length:Int))) < 0)=true:=decide_eq_true c3
 have c3w:decide ((IntKind.i64.wrap (a1 - (l0.length:Int))) < 0)=true:=by simp only [i64_w];exact c3b0
 rotate_left
 rw [if_neg c3] at H
 have c3b0:decide ((wrap64 (a1 - (l0.length:Int))) < 0)=false:=decide_eq_false c3
 have c3w:decide ((IntKind.i64.wrap (a1 - (l0.length:Int))) < 0)=false:=by simp only [i64_w];exact c3b0
 rotate_left
 all_goals
  clear c3
  obtain rfl:=zi H
  go_enter Tryz.func119,Tryz.ntmps119
  go_wp2
  go_ret
  exact ⟨za7,za10⟩
def laws_toIntS.l0:Nat→List Int→List Int→Int→Option (List Int)
 | 0,_,_,_=>none
 | k+1,x0,x3,x4=>if x4 < (x0.length:Int) then (if 0≤x4 then (if x4 < (x3.length:Int) then (laws_toIntS.l0 k x0 (x3.set (x4:Int).toNat (rd x0 x4)) (wrap64 (x4+1))) else (none)) else (none)) else (some x3)
def laws_toIntS.f (k:Nat) (l0:List Int):Option (List Int):=if 0≤(l0.length:Int) then (if ((l0.length:Int):Int).toNat≤35184372088832 then (laws_toIntS.l0 k l0 (List.replicate ((l0.length:Int):Int).toNat 0) 0) else (none)) else (none)
theorem laws_toIntS.mono_l:∀ k,(∀ y0 y1 y2,LeO (laws_toIntS.l0 k y0 y1 y2) (laws_toIntS.l0 (k+1) y0 y1 y2))
 | 0=>fun _ _ _ r h=>by simp [laws_toIntS.l0] at h
 | k+1=>by
  have ih0:=laws_toIntS.mono_l k
  ·intro y0 y1 y2
   unfold laws_toIntS.l0
   repeat' first
   | with_reducible first|exact ih0 _ _ _|exact LeO.refl _|exact LeO.none _|refine LeO.ite ?_ ?_|refine LeO.bind ?_ (fun _=>?_)
theorem laws_toIntS.mono:∀ a0 k,LeO (laws_toIntS.f k a0) (laws_toIntS.f (k+1) a0):=by
 intro a0 k
 have ih0:=laws_toIntS.mono_l k
 unfold laws_toIntS.f
 repeat' first
  | with_reducible first|exact ih0 _ _ _|exact LeO.refl _|exact LeO.none _|refine LeO.ite ?_ ?_|refine LeO.bind ?_ (fun _=>?_)
theorem laws_toIntS.calls (k:Nat) (A0:Option Addr) (c0:Nat) (l0:List Int) (r:List Int) (w:World) (hr0:Kd.C (Kd.int .i64) w A0 l0.length l0) (hc0:l0.length≤c0) (h:laws_toIntS.f k l0=some r) :
  Calls Tryz.prog 121 #[.slice A0 l0.length c0] w fun e w'=>∃ v0_:Value,e = .returned (v0_)∧Kd.R (Kd.int .i64) 3 w' w.heap.size (fun _=>True) v0_ r∧Below w.heap.size w w':=by
 have HR0:=zk hr0
 have HC0:=zk hc0
 clear hr0 hc0
 have HB:=zk (Below.refl w.heap.size w)
 have H:(if 0≤(l0.length:Int) then (if ((l0.length:Int):Int).toNat≤35184372088832 then (laws_toIntS.l0 k l0 (List.replicate ((l0.length:Int):Int).toNat 0) 0) else (none)) else (none))=some r:=h
 clear h
 by_cases c2:0≤(l0.length:Int)
 rw [if_pos c2] at H
 have c2b0:=eq_true c2
 have c2b1:decide (0≤(l0.length:Int))=true:=decide_eq_true c2
 clear c2
 by_cases c3:((l0.length:Int):Int).toNat≤35184372088832
 ·rw [if_pos c3] at H
  have c3b0:=eq_true c3
  have c3b1:decide (((l0.length:Int):Int).toNat≤35184372088832)=true:=decide_eq_true c3
  clear c3
  obtain ⟨y121001,hy121001⟩:∃ y_:List Int,y_=(List.replicate ((l0.length:Int):Int).toNat 0):=⟨_,rfl⟩
  replace H:(laws_toIntS.l0 k l0 y121001 0)=some r:=by first|(rw [hy121001];with_reducible exact H)|(have H2_:=(Option.bind_some _ _).symm.trans H;rw [hy121001];with_reducible exact H2_)|(have H2_:=(Option.bind_some _ _).symm.trans H;with_reducible exact H2_)|with_reducible exact H|(rw [hy121001];exact H)|exact H
  have Ny121001:=zk hy121001
  clear hy121001
  have H':=zk H
  clear H
  go_enter Tryz.func121,Tryz.ntmps121
  go_wp2_with (first|((with_reducible refine gate_dst (N:=7) rfl ?_);refine Kd.R_make (Kd.int .i64) _ 3 rfl (N:=7) rfl 59 _ _ rfl (l0.length:Int) rfl rfl Tryz.underlying59 (.int .i64 0) 8 info3 rfl (by decide) (by omega) 0 (ok:=fun _=>True) (okp:=fun _=>True) rfl (fun _ hk=>hk) trivial (of_decide_eq_true za8) (Nat.le_trans (Nat.mul_le_mul_right _ (of_decide_eq_true za8:(l0.length:Int).toNat≤35184372088832)) (by omega)) (Below.refl _ _) (Nat.le_refl _) ?_;intro v121002 w4 ho5 hb hg_ hnew_;clear hg_ hnew_;(first|rw [← Ny121001.out] at ho5|(simp only [Int.reduceToNat] at ho5;rw [← Ny121001.out] at ho5));have n0_:=zk (Kd.R_lower ho5 (below_size za3));have n1_:=zk (below_step za3 hb);clear HB;have HO121003:=n0_;have HB:=n1_;clear n0_ n1_;clear hb ho5))
  first|go_loopg [4] k (fun kq v4 w'=>∃ (x3_1:List Int) (x4_1:Int),v4 = .int .i64 x4_1∧Aside0 (laws_toIntS.l0 kq l0 x3_1 x4_1=some r)∧Aside0 (kq≤k)∧Aside0 (Kd.R (Kd.int .i64) 3 w' w.heap.size (fun _=>True) v121002 x3_1)∧Aside0 (Below w.heap.size w w'))|(simp only [Act.put,zt,zv,zu];go_loopg [4] k (fun kq v4 w'=>∃ (x3_1:List Int) (x4_1:Int),v4 = .int .i64 x4_1∧Aside0 (laws_toIntS.l0 kq l0 x3_1 x4_1=some r)∧Aside0 (kq≤k)∧Aside0 (Kd.R (Kd.int .i64) 3 w' w.heap.size (fun _=>True) v121002 x3_1)∧Aside0 (Below w.heap.size w w')))
  case atStart=>exact ⟨(y121001),(0),za7,H',⟨Nat.le_refl _⟩,⟨za0 HO121003.out⟩,⟨za3⟩⟩
  case round =>
   clear H'
   try clear c3
   try clear c3b0
   try clear c3b1
   obtain ⟨x3_1,x4_1,rfl,HA,HK1,HO_3,HB⟩:=hrel
   cases gk with
   | zero=>exact absurd HA.out (by simp [laws_toIntS.l0])
   | succ k1 =>
    have H:=HA.out
    clear HA
    simp only [laws_toIntS.l0] at H
    by_cases c6:x4_1 < (l0.length:Int)
    rw [if_pos c6] at H
    have c6b0:decide (x4_1 < (l0.length:Int))=true:=decide_eq_true c6
    clear c6
    by_cases c7:0≤x4_1
    rw [if_pos c7] at H
    have c7b0:decide (0≤x4_1)=true:=decide_eq_true c7
    clear c7
    by_cases c8:x4_1 < (x3_1.length:Int)
    ·rw [if_pos c8] at H
     have c8b0:decide (x4_1 < (x3_1.length:Int))=true:=decide_eq_true c8
     clear c8
     obtain ⟨y121005,hy121005⟩:∃ y_:List Int,y_=(x3_1.set (x4_1:Int).toNat (rd l0 x4_1)):=⟨_,rfl⟩
     replace H:(laws_toIntS.l0 k1 l0 y121005 (wrap64 (x4_1+1)))=some r:=by first|(rw [hy121005];with_reducible exact H)|(have H2_:=(Option.bind_some _ _).symm.trans H;rw [hy121005];with_reducible exact H2_)|(have H2_:=(Option.bind_some _ _).symm.trans H;with_reducible exact H2_)|with_reducible exact H|(rw [hy121005];exact H)|exact H
     have Ny121005:=zk hy121005
     clear hy121005
     have H':=zk H
     clear H
     have p121004:0≤(x4_1:Int):=of_decide_eq_true za8
     have q121004:x4_1 < (l0.length:Int):=of_decide_eq_true za8
     obtain ⟨ad121004,e121004,hx121004_0⟩:=Kd.at_int HR0.out x4_1 p121004 q121004
     cases e121004
     replace hx121004_0:=zx HB.out hx121004_0
     replace p121004:=eq_true p121004
     replace q121004:=eq_true q121004
     have p9:0≤(x4_1:Int):=of_decide_eq_true za8
     have q9:(x4_1:Int) < ((x3_1.length:Int):Int):=of_decide_eq_true za8
     obtain ⟨go9,co9,eo9,gb9,gl9,cl9,HG9⟩:=Kd.R_form HO_3.out (by omega)
     (first|cases eo9|(injection eo9 with ea_ en_ ec_;(first|subst ea_|(injection ea_ with ea_;subst ea_));subst ec_;clear en_))
     have GB9:=zk gb9
     have GG9:=zk HG9
     clear gb9 gl9 HG9
     obtain ⟨hx9_0,hf9_0⟩:=Kd.R_celln 0 HO_3.out (x4_1:Int) p9 q9
     replace p9:=eq_true p9
     replace q9:=eq_true q9
     have HP10:=Kd.R_putg HO_3.out (x4_1:Int) (rd l0 x4_1)
     go_wp2_with (first|((with_reducible refine gate_store (t:=3) (p:=20) rfl ?_);refine store_event (t:=3) (p:=20) (v:=?vo_w11) (w1:=(wr.setCell ⟨go9,(x4_1:Int).toNat,none⟩ (.int .i64 (rd l0 x4_1)))) ?hg ?ho ?hn ?hr ?_;(case ho=>rfl);(case hg=>rfl);(case hn=>rfl);(case hr=>first|(go_simp;done)|(go_simp;rfl));intro w11 hw;have hg:wr.grownBy w11 (some go9):=(by rw [hw];exact HP10.2);have hp_:Kd.R (Kd.int .i64) 3 w11 w.heap.size (fun _=>True) (.slice (some ⟨go9,0,none⟩) x3_1.length co9) y121005:=(by rw [hw,Ny121005.out];exact HP10.1);clear HP10;have n0_:=zk (hp_);have n1_:=zk ((by rw [hw];exact below_set (HB.out) GB9.out:Below w.heap.size w w11));clear HO_3;clear HB;have HO_3:=n0_;have HB:=n1_;clear n0_ n1_;clear hg hw hp_))
     go_roundg k1
     case measure=>have:=HK1.out;omega
     case rel=>exact ⟨(y121005),(wrap64 (x4_1+1)),za7,H',⟨za15⟩,⟨za0 HO_3.out⟩,⟨za3⟩⟩
    ·rw [if_neg c8] at H
     exact absurd H (by simp)
    ·rw [if_neg c7] at H
     exact absurd H (by simp)
    ·rw [if_neg c6] at H
     have c6b0:decide (x4_1 < (l0.length:Int))=false:=decide_eq_false c6
     clear c6
     obtain rfl:=zi H
     go_wp2
     go_ret
     exact ⟨_,za6,za0 HO_3.out,za3⟩
 ·rw [if_neg c3] at H
  exact absurd H (by simp)
 ·rw [if_neg c2] at H
  exact absurd H (by simp)
def laws_eqIntS.l0:Nat→List Int→List Int→Int→Option (Bool)
 | 0,_,_,_=>none
 | k+1,x0,x1,x5=>if x5 < (x0.length:Int) then (if 0≤x5 then (if x5 < (x1.length:Int) then (if (rd x0 x5)=(rd x1 x5) then (laws_eqIntS.l0 k x0 x1 (wrap64 (x5+1))) else (some false)) else (none)) else (none)) else (some true)
def laws_eqIntS.f (k:Nat) (l0:List Int) (l1:List Int):Option (Bool):=if (l0.length:Int)=(l1.length:Int) then (laws_eqIntS.l0 k l0 l1 0) else (some false)
theorem laws_eqIntS.mono_l:∀ k,(∀ y0 y1 y2,LeO (laws_eqIntS.l0 k y0 y1 y2) (laws_eqIntS.l0 (k+1) y0 y1 y2))
 | 0=>fun _ _ _ r h=>by simp [laws_eqIntS.l0] at h
 | k+1=>by
  have ih0:=laws_eqIntS.mono_l k
  ·intro y0 y1 y2
   unfold laws_eqIntS.l0
   repeat' first
   | with_reducible first|exact ih0 _ _ _|exact LeO.refl _|exact LeO.none _|refine LeO.ite ?_ ?_|refine LeO.bind ?_ (fun _=>?_)
theorem laws_eqIntS.mono:∀ a0 a1 k,LeO (laws_eqIntS.f k a0 a1) (laws_eqIntS.f (k+1) a0 a1):=by
 intro a0 a1 k
 have ih0:=laws_eqIntS.mono_l k
 unfold laws_eqIntS.f
 repeat' first
  | with_reducible first|exact ih0 _ _ _|exact LeO.refl _|exact LeO.none _|refine LeO.ite ?_ ?_|refine LeO.bind ?_ (fun _=>?_)
theorem laws_eqIntS.calls (k:Nat) (A0:Option Addr) (c0:Nat) (l0:List Int) (A1:Option Addr) (c1:Nat) (l1:List Int) (r:Bool) (w:World) (hr0:Kd.C (Kd.int .i64) w A0 l0.length l0) (hc0:l0.length≤c0) (hr1:Kd.C (Kd.int .i64) w A1 l1.length l1) (hc1:l1.length≤c1) (h:laws_eqIntS.f k l0 l1=some r) :
  Calls Tryz.prog 123 #[.slice A0 l0.length c0,.slice A1 l1.length c1] w fun e w'=>e = .returned (.bool r)∧Drawn0 w w':=by
 have HR0:=zk hr0
 have HC0:=zk hc0
 clear hr0 hc0
 have HR1:=zk hr1
 have HC1:=zk hc1
 clear hr1 hc1
 have H:(if (l0.length:Int)=(l1.length:Int) then (laws_eqIntS.l0 k l0 l1 0) else (some false))=some r:=h
 clear h
 by_cases c3:(l0.length:Int)=(l1.length:Int)
 ·rw [if_pos c3] at H
  have c3b0:((l0.length:Int) == (l1.length:Int))=true:=beq_iff_eq.mpr c3
  have c3b1:((l0.length:Int) != (l1.length:Int))=false:=bne_eq_false_iff_eq.mpr c3
  have c3b2:(l0.length == l1.length)=true:=by first|simpa using c3|(simp at c3 ⊢;omega)
  clear c3
  have H':=zk H
  clear H
  go_enter Tryz.func123,Tryz.ntmps123
  go_wp2
  repeat (go_quiet (fail);try go_wp2)
  first|go_loopg [5] k (fun kq v5 w'=>∃ (x5_1:Int),v5 = .int .i64 x5_1∧Aside0 (laws_eqIntS.l0 kq l0 l1 x5_1=some r)∧Aside0 (kq≤k)∧Drawn0 w w')|(simp only [Act.put,zt,zv,zu];go_loopg [5] k (fun kq v5 w'=>∃ (x5_1:Int),v5 = .int .i64 x5_1∧Aside0 (laws_eqIntS.l0 kq l0 l1 x5_1=some r)∧Aside0 (kq≤k)∧Drawn0 w w'))
  case atStart=>exact ⟨(0),za7,H',⟨Nat.le_refl _⟩,za10⟩
  case round =>
   clear H'
   try clear c3
   try clear c3b0
   try clear c3b1
   try clear c3b2
   obtain ⟨x5_1,rfl,HA,HK1,⟨m1,rfl⟩⟩:=hrel
   cases gk with
   | zero=>exact absurd HA.out (by simp [laws_eqIntS.l0])
   | succ k1 =>
    have H:=HA.out
    clear HA
    simp only [laws_eqIntS.l0] at H
    by_cases c4:x5_1 < (l0.length:Int)
    rw [if_pos c4] at H
    have c4b0:decide (x5_1 < (l0.length:Int))=true:=decide_eq_true c4
    clear c4
    by_cases c5:0≤x5_1
    rw [if_pos c5] at H
    have c5b0:decide (0≤x5_1)=true:=decide_eq_true c5
    clear c5
    by_cases c6:x5_1 < (l1.length:Int)
    rw [if_pos c6] at H
    have c6b0:decide (x5_1 < (l1.length:Int))=true:=decide_eq_true c6
    clear c6
    by_cases c7:(rd l0 x5_1)=(rd l1 x5_1)
    rw [if_pos c7] at H
    have c7b0:((rd l0 x5_1) == (rd l1 x5_1))=true:=beq_iff_eq.mpr c7
    have c7b1:((rd l0 x5_1) != (rd l1 x5_1))=false:=bne_eq_false_iff_eq.mpr c7
    clear c7
    have H':=zk H
    clear H
    have fin0_:=zk trivial
    rotate_left
    rw [if_neg c7] at H
    have c7b0:((rd l0 x5_1) == (rd l1 x5_1))=false:=beq_eq_false_iff_ne.mpr c7
    have c7b1:((rd l0 x5_1) != (rd l1 x5_1))=true:=bne_iff_ne.mpr c7
    obtain rfl:=zi H
    have fin1_:=zk trivial
    rotate_left
    · rw [if_neg c6] at H
      exact absurd H (by simp)
    · rw [if_neg c5] at H
      exact absurd H (by simp)
    · rw [if_neg c4] at H
      have c4b0:decide (x5_1 < (l0.length:Int))=false:=decide_eq_false c4
      clear c4
      obtain rfl:=zi H
      go_wp2
      repeat (go_quiet (fail);try go_wp2)
      go_ret
      exact ⟨za7,za10⟩
    all_goals
     have p123001:0≤(x5_1:Int):=of_decide_eq_true za8
     have q123001:x5_1 < (l0.length:Int):=of_decide_eq_true za8
     obtain ⟨ad123001,e123001,hx123001_0⟩:=Kd.at_int HR0.out x5_1 p123001 q123001
     cases e123001
     replace p123001:=eq_true p123001
     replace q123001:=eq_true q123001
     have p123002:0≤(x5_1:Int):=of_decide_eq_true za8
     have q123002:x5_1 < (l1.length:Int):=of_decide_eq_true za8
     obtain ⟨ad123002,e123002,hx123002_0⟩:=Kd.at_int HR1.out x5_1 p123002 q123002
     cases e123002
     replace p123002:=eq_true p123002
     replace q123002:=eq_true q123002
     go_wp2
     repeat (go_quiet (fail);try go_wp2)
     first
     | (
       clear fin0_
       go_roundg k1
       case measure=>have:=HK1.out;omega
       case rel=>exact ⟨(wrap64 (x5_1+1)),za7,H',⟨za15⟩,za10⟩)
     | (
       clear fin1_
       go_ret
       exact ⟨za7,za10⟩)
 ·rw [if_neg c3] at H
  have c3b0:((l0.length:Int) == (l1.length:Int))=false:=beq_eq_false_iff_ne.mpr c3
  have c3b1:((l0.length:Int) != (l1.length:Int))=true:=bne_iff_ne.mpr c3
  have c3b2:(l0.length == l1.length)=false:=by first|simpa using c3|(simp at c3 ⊢;omega)
  obtain rfl:=zi H
  go_enter Tryz.func123,Tryz.ntmps123
  go_wp2
  repeat (go_quiet (fail);try go_wp2)
  go_ret
  exact ⟨za7,za10⟩
end Go.Proofs.YtffjfdoghofkdaaGreat.A
