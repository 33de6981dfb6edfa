/- FnExactWithoutConstraint: what its proof needs, put together by this session's program wip/merge.py out of the texts that wip/xp.py printed and of this session's own. -/
import Derived.Test.YteolnmoomeenbaaQFnExactWithoutConstraint1
import Derived.Test.YteolnmoomeenbaaProg
import Derived.Shelf.RegionOpenPlain
import Derived.WalkKit
import Derived.Deep.LoopGhost
import Derived.Deep.RegionLaw
import Derived.Lib.SliceRun
set_option linter.unusedVariables false
set_option linter.unusedSimpArgs false
set_option linter.unusedSectionVars false
set_option maxHeartbeats 8000000
set_option maxRecDepth 100000
namespace Go.Proofs.Yteolnmoomeenbaa.Ext
open Go Go.RowKit YteolnmoomeenbaaW.PrintWords YteolnmoomeenbaaW.PrintLast Yteolnmoomeenbaa.A
theorem S_move {α:Type} {d:Kd α} {e:Nat} {w w1:World} {base:Nat} {ok:Nat→Prop} {v:Value} {xs:List α} (h:Kd.S d e w base ok v xs) (hm:∀ k,ok k→w1.heap[k]? = w.heap[k]?):Kd.S d e w1 base ok v xs:=by
 obtain ⟨f,h⟩:=h
 exact ⟨f,Kd.R_move h hm⟩
def sliceS {α:Type} (e:Nat) (d:Kd α):Kd (List α) where
 sz:=1
 E:=e :: d.E
 K:=fun w xs cs=>∃ A c,cs = [.slice A xs.length c]∧xs.length≤c∧d.C w A xs.length xs
 M:=fun w base ok xs cs=>∃ v,cs = [v]∧Kd.S d e w base ok v xs
 K_len:=by
  rintro w x cs ⟨A,c,rfl,_⟩
  rfl
 K_one:=by
  rintro w x cs ⟨A,c,rfl,_⟩ u hu
  rw [List.mem_singleton.1 hu]
  rfl
 K_below:=by
  rintro w w1 x cs hb ⟨A,c,rfl,hl,hr⟩
  exact ⟨A,c,rfl,hl,Kd.C_below hr hb⟩
 K_of_M:=by
  rintro w base ok x cs ⟨v,rfl,h⟩
  obtain ⟨A,c,rfl,hl,hr⟩:=Kd.S_reads h
  exact ⟨A,c,rfl,hl,hr⟩
 M_mono:=by
  rintro w base ok ok' x cs hok ⟨v,rfl,h⟩
  exact ⟨v,rfl,Kd.S_mono h hok⟩
 M_bound:=by
  rintro w base ok x cs ⟨v,rfl,h⟩
  exact ⟨v,rfl,Kd.S_bound h⟩
 M_move:=by
  rintro w w1 base ok x cs hm ⟨v,rfl,h⟩
  exact ⟨v,rfl,S_move h hm⟩
 M_lower:=by
  rintro w base base' ok x cs hb ⟨v,rfl,h⟩
  exact ⟨v,rfl,Kd.S_lower h hb⟩
theorem S_imp {α:Type} {d d':Kd α} (hs:d.sz=d'.sz) (h:∀ w base ok x cs,d.M w base ok x cs→d'.M w base ok x cs) {e:Nat} {w:World} {base:Nat} {ok:Nat→Prop} {v:Value} {xs:List α} (hr:Kd.S d e w base ok v xs):Kd.S d' e w base ok v xs:=by
 obtain ⟨f,hr⟩:=hr
 exact ⟨f,Kd.R_imp (d:=Kd.tag f d) (d':=Kd.tag f d') hs (fun w base ok x cs hp=>h w base _ x.1 cs hp) hr⟩
theorem mono_sliceS {α β:Type} (e:Nat) {G:Kd α→Kd β} (hG:Kd.Mono G):Kd.Mono (fun d=>sliceS e (G d)):=by
 refine ⟨fun _ _ _=>rfl,?_,?_⟩
 ·rintro d d' hs h w x cs ⟨A,c,rfl,hl,hr⟩
  exact ⟨A,c,rfl,hl,Kd.C_imp (hG.sz d d' hs) (hG.K d d' hs h) hr⟩
 ·rintro d d' hs h w base ok x cs ⟨v,rfl,hr⟩
  exact ⟨v,rfl,S_imp (hG.sz d d' hs) (hG.M d d' hs h) hr⟩
theorem sub_sliceS {α β:Type} {E:List Nat} (e:Nat) {G:Kd α→Kd β} (he:e ∈ E) (hG:Kd.Sub G E):Kd.Sub (fun d=>sliceS e (G d)) E:=fun d h q hq=>by
 rcases List.mem_cons.1 hq with rfl|hq
 ·exact he
 ·exact hG d h q hq
section
variable {α : Type} {F : Kd α → Kd α} {sz : Nat} {E : List Nat} {hs : ∀ n, (Kd.upto F sz E n).sz = sz} {hE : ∀ n q, q ∈ (Kd.upto F sz E n).E → q ∈ E}
theorem fix_S {n:Nat} {e:Nat} {w:World} {base:Nat} {ok:Nat→Prop} {v:Value} {xs:List α} (h:Kd.S (Kd.upto F sz E n) e w base ok v xs):Kd.S (Kd.fix F sz E hs hE) e w base ok v xs :=
 S_imp (d':=Kd.fix F sz E hs hE) (hs n) (fun w base ok x cs hp=>(⟨n,hp⟩:∃ n,(Kd.upto F sz E n).M w base ok x cs)) h
theorem fix_S_back (hm:Kd.Mono F) {e:Nat} {w:World} {base:Nat} {ok:Nat→Prop} {v:Value} {xs:List α} (h:Kd.S (Kd.fix F sz E hs hE) e w base ok v xs):∃ n,Kd.S (Kd.upto F sz E n) e w base ok v xs:=by
 obtain ⟨f,h0,inner,ho,hr⟩:=h
 obtain ⟨N,hN⟩:=Kd.reps_bounded (R:=fun n (p:α × Nat) c=>(Kd.upto F sz E n).M w base (fun k=>(ok k∧some k ≠ v.ownBlock)∧f k=p.2) p.1 c) (fun n m p c hnm hp=>Kd.upto_M_le hm hs hnm hp) hr
 refine ⟨N,f,h0,inner,?_,?_⟩
 ·show w.ownsRow base e (Kd.upto F sz E N).sz v _ inner
  rw [hs N];exact ho
 ·show Reps _ (Kd.upto F sz E N).sz _ _
  rw [hs N];exact hN
end
/-! Regular expressions. -/
def FS (d:Kd S43):Kd S43:=Kd.iso (Kd.pair (Kd.int .i64) (Kd.pair Kd.string (sliceS 43 d))) (fun x:S43=>(x.f0,x.f1,x.f2))
theorem monoFS:Kd.Mono FS:=Kd.mono_iso _ (Kd.mono_pair (Kd.mono_const _) (Kd.mono_pair (Kd.mono_const _) (mono_sliceS 43 Kd.mono_id)))
theorem subFS:Kd.Sub FS [43]:=Kd.sub_iso _ (Kd.sub_pair (Kd.sub_const _ (by decide)) (Kd.sub_pair (Kd.sub_const _ (by decide)) (sub_sliceS 43 (by decide) Kd.sub_id)))
theorem szFS:∀ n,(Kd.upto FS 3 [43] n).sz=3:=Kd.upto_sz (fun _=>rfl)
def kS:Kd S43:=Kd.fix FS 3 [43] szFS (Kd.upto_E subFS)
theorem kS_openM {w:World} {base:Nat} {ok:Nat→Prop} {x:S43} {cs:List Value} (h:kS.M w base ok x cs):∃ v2,cs = [.int .i64 x.f0,.string x.f1,v2]∧Kd.S kS 43 w base ok v2 x.f2:=by
 obtain ⟨n,h⟩:=h
 cases n with
 | zero=>exact h.elim
 | succ n =>
  obtain ⟨_,_,rfl,rfl,⟨_,_,rfl,rfl,⟨v2,rfl,g2⟩⟩⟩:=h
  exact ⟨v2,rfl,fix_S g2⟩
theorem kS_mkM (w:World) (base:Nat) (ok:Nat→Prop) (x:S43) {v2:Value} (g2:Kd.S kS 43 w base ok v2 x.f2):kS.M w base ok x [.int .i64 x.f0,.string x.f1,v2]:=by
 obtain ⟨n2,q2⟩:=fix_S_back monoFS g2
 exact ⟨n2+1,⟨[.int .i64 x.f0],[.string x.f1,v2],rfl,rfl,⟨[.string x.f1],[v2],rfl,rfl,⟨v2,rfl,q2⟩⟩⟩⟩
theorem M_forget:∀ n w base ok x cs,(Kd.upto FS 3 [43] n).M w base ok x cs→(Kd.upto F43 3 [43] n).M w base ok x cs
 | 0,_,_,_,_,_,h=>h.elim
 | n+1,w,base,ok,x,cs,h=>by
  obtain ⟨_,_,rfl,rfl,⟨_,_,rfl,rfl,⟨v2,rfl,g2⟩⟩⟩:=h
  exact ⟨[.int .i64 x.f0],[.string x.f1,v2],rfl,rfl,⟨[.string x.f1],[v2],rfl,rfl,⟨v2,rfl,Kd.R_imp (by rw [szFS n,sz43 n]) (fun w base ok x cs hp=>M_forget n w base ok x cs hp) (Kd.S_R g2)⟩⟩⟩
theorem kS_forget {w:World} {base:Nat} {ok:Nat→Prop} {x:S43} {cs:List Value} (h:kS.M w base ok x cs):k43.M w base ok x cs:=by
 obtain ⟨n,h⟩:=h
 exact ⟨n,M_forget n _ _ _ _ _ h⟩
theorem S_tree {e:Nat} {w:World} {base:Nat} {ok:Nat→Prop} {v:Value} {xs:List S43} (h:Kd.S kS e w base ok v xs):Kd.R k43 e w base ok v xs :=
 Kd.R_imp (d:=kS) (d':=k43) rfl (fun _ _ _ _ _ hp=>kS_forget hp) (Kd.S_R h)
/-! Constraints. -/
def kCS:Kd S46:=Kd.iso (Kd.pair (Kd.int .i64) (Kd.pair Kd.string (Kd.pair Kd.string (Kd.pair kS (Kd.pair (Kd.slice 3 (Kd.int .i64)) (Kd.int .i64)))))) (fun x:S46=>(x.f0,x.f1,x.f2,x.f3,x.f4,x.f5))
theorem kCS_openM {w:World} {base:Nat} {ok:Nat→Prop} {x:S46} {cs:List Value} (h:kCS.M w base ok x cs):∃ v5 v6,cs = [.int .i64 x.f0,.string x.f1,.string x.f2,.int .i64 x.f3.f0,.string x.f3.f1,v5,v6,.int .i64 x.f5]∧Kd.S kS 43 w base ok v5 x.f3.f2∧(Kd.int .i64).R 3 w base ok v6 x.f4:=by
 obtain ⟨_,_,rfl,rfl,⟨_,_,rfl,rfl,⟨_,_,rfl,rfl,⟨_,_,rfl,s3,⟨_,_,rfl,⟨v6,rfl,g6⟩,rfl⟩⟩⟩⟩⟩:=h
 obtain ⟨v5,rfl,g5⟩:=kS_openM s3
 exact ⟨v5,v6,rfl,g5,g6⟩
theorem kCS_mkM (w:World) (base:Nat) (ok:Nat→Prop) (x:S46) {v5:Value} (g5:Kd.S kS 43 w base ok v5 x.f3.f2) {v6:Value} (g6:(Kd.int .i64).R 3 w base ok v6 x.f4):kCS.M w base ok x [.int .i64 x.f0,.string x.f1,.string x.f2,.int .i64 x.f3.f0,.string x.f3.f1,v5,v6,.int .i64 x.f5]:=⟨[.int .i64 x.f0],[.string x.f1,.string x.f2,.int .i64 x.f3.f0,.string x.f3.f1,v5,v6,.int .i64 x.f5],rfl,rfl,⟨[.string x.f1],[.string x.f2,.int .i64 x.f3.f0,.string x.f3.f1,v5,v6,.int .i64 x.f5],rfl,rfl,⟨[.string x.f2],[.int .i64 x.f3.f0,.string x.f3.f1,v5,v6,.int .i64 x.f5],rfl,rfl,⟨[.int .i64 x.f3.f0,.string x.f3.f1,v5],[v6,.int .i64 x.f5],rfl,kS_mkM w base ok x.f3 g5,⟨[v6],[.int .i64 x.f5],rfl,⟨v6,rfl,g6⟩,rfl⟩⟩⟩⟩⟩
theorem kCS_forget {w:World} {base:Nat} {ok:Nat→Prop} {x:S46} {cs:List Value} (h:kCS.M w base ok x cs):k46.M w base ok x cs:=by
 obtain ⟨v5,v6,rfl,g5,g6⟩:=kCS_openM h
 exact k46_mkM w base ok x (S_tree g5) g6
theorem S_cons {e:Nat} {w:World} {base:Nat} {ok:Nat→Prop} {v:Value} {xs:List S46} (h:Kd.S kCS e w base ok v xs):Kd.R k46 e w base ok v xs :=
 Kd.R_imp (d:=kCS) (d':=k46) rfl (fun _ _ _ _ _ hp=>kCS_forget hp) (Kd.S_R h)
theorem S_call {α β:Type} {d:Kd α} {d':Kd β} {e e' base:Nat} {W w1:World} {ok ok0:Nat→Prop} {u v:Value} {xs:List α} {ys:List β} (h:Kd.S d e W base ok u xs) (h0:Kd.S d' e' w1 W.heap.size ok0 v ys) (hb:Below W.heap.size W w1) :
  ∃ N,Kd.S d e w1 base (fun k=>ok k∧(some k ≠ v.ownBlock∧k < N)) u xs∧Kd.S d' e' w1 W.heap.size (fun k=>ok0 k∧N≤k) v ys :=
 ⟨W.heap.size,Kd.S_mono (Kd.S_old h hb) (fun k hk=>⟨hk.1,fun e_=>Nat.lt_irrefl _ (Nat.lt_of_lt_of_le hk.2 (Kd.S_base h0 k e_.symm)),hk.2⟩),Kd.S_mono (Kd.S_bound h0) (fun _ hk=>⟨hk.1,hk.2.1⟩)⟩
theorem S_call2 {α β γ:Type} {d:Kd α} {d':Kd β} {d2:Kd γ} {e e' e2 base:Nat} {W w1:World} {ok ok0 ok1:Nat→Prop} {u v v2:Value} {xs:List α} {ys:List β} {zs:List γ} (h:Kd.S d e W base ok u xs) (h0:Kd.S d' e' w1 W.heap.size ok0 v ys) (h1:Kd.R d2 e2 w1 W.heap.size ok1 v2 zs) (hb:Below W.heap.size W w1) :
  ∃ N,Kd.S d e w1 base (fun k=>(ok k∧(some k ≠ v.ownBlock∧k < N))∧some k ≠ v2.ownBlock) u xs∧Kd.S d' e' w1 W.heap.size (fun k=>ok0 k∧N≤k) v ys∧Kd.R d2 e2 w1 W.heap.size (fun k=>ok1 k∧N≤k) v2 zs :=
 ⟨W.heap.size,Kd.S_mono (Kd.S_old h hb) (fun k hk=>⟨⟨hk.1,fun e_=>Nat.lt_irrefl _ (Nat.lt_of_lt_of_le hk.2 (Kd.S_base h0 k e_.symm)),hk.2⟩,fun e_=>Nat.lt_irrefl _ (Nat.lt_of_lt_of_le hk.2 (Kd.R_base h1 k e_.symm))⟩),Kd.S_mono (Kd.S_bound h0) (fun _ hk=>⟨hk.1,hk.2.1⟩),Kd.R_mono (Kd.R_bound h1) (fun _ hk=>⟨hk.1,hk.2.1⟩)⟩
end Go.Proofs.Yteolnmoomeenbaa.Ext
namespace Go.Proofs.Yteolnmoomeenbaa.A
open Go.RowKit Yteolnmoomeenbaa.Ext YteolnmoomeenbaaW.PrintWords YteolnmoomeenbaaW.PrintLast YteolnmoomeenbaaW.PrintMore
attribute [local go_sem] max2_int min2_int max_two min_two max_three min_three max_four min_four
open Yteolnmoomeenbaa.Ext
theorem impl_cloneRegex.apart (k:Nat):∀ (a0_0:Int) (a0_1:ByteArray) (A0_2:Option Addr) (c0_2:Nat) (l0_2:List (S43)) (r1:Int) (r2:ByteArray) (r3:List (S43)) (w:World) (hr0_2:Kd.C k43 w A0_2 l0_2.length l0_2) (hc0_2:l0_2.length≤c0_2) (h:impl_cloneRegex.f k a0_0 a0_1 l0_2=some (r1,r2,r3)),
   Calls Try.prog 52 #[.agg #[.int .i64 a0_0,.string a0_1,.slice A0_2 l0_2.length c0_2]] w fun e w'=>∃ v2_:Value,e = .returned (.agg #[.int .i64 r1,.string r2,v2_])∧Kd.S kS 43 w' w.heap.size (fun _=>True) v2_ r3∧Below w.heap.size w w':=by
 induction k using Nat.strongRecOn with
 | _ k ih =>
 intro a0_0 a0_1 A0_2 c0_2 l0_2 r1 r2 r3 w hr0_2 hc0_2 h
 cases k with
 | zero=>exact absurd h (by simp [impl_cloneRegex.f])
 | succ k =>
 simp only [impl_cloneRegex.f] at h
 have hu43:=Try.underlying43
 have HR0_2:=zk hr0_2
 have HC0_2:=zk hc0_2
 clear hr0_2 hc0_2
 have HB:=zk (Below.refl w.heap.size w)
 have H:=h
 clear h
 have H':=zk H
 clear H
 go_enter Try.func52,Try.ntmps52
 go_wp2_with (first|((with_reducible refine gate_dst (N:=1) rfl ?_);refine zE (cs:=#[.int .i64 a0_0,.string a0_1,.slice A0_2 l0_2.length c0_2]) (t:=43) ?_;intro gb1 hg w2 hbox hb;have BK1:=zk hbox;have GW1:=zk (zs (w:=w) hg za5);have GE1:=GW1;replace HB:=yB HB hb;clear hb hbox hg)|((with_reducible refine gate_dst (N:=2) rfl ?_);refine zE (cs:=#[.int .i64 0,.string ⟨#[]⟩,.slice none 0 0]) (t:=43) ?_;intro gb2 hg w3 hbox hb;have BK2:=zk hbox;have GW2:=zk (zs (w:=w) hg za5);have GE2:=GW2;have NB1_2:=yn hg BK1;have NB2_1:=yp hg BK1;replace BK1:=yb BK1 hb;replace HB:=yB HB hb;clear hb hbox hg;have hnb4:=NB1_2.out;have hnc4:=NB2_1.out;obtain ⟨hcz5_0,hcz5_1,hcz5_2,hfz5_0,hfz5_1,hfz5_2⟩:=blk3 BK1.out)|((with_reducible refine gate_dst (N:=3) rfl ?_);refine zE (cs:=#[.int .i64 0,.string ⟨#[]⟩,.slice none 0 0]) (t:=43) ?_;intro gb3 hg w6 hbox hb;have BK3:=zk hbox;have GW3:=zk (zs (w:=w) hg za5);have GE3:=GW3;have NB1_3:=yn hg BK1;have NB3_1:=yp hg BK1;have NB2_3:=yn hg BK2;have NB3_2:=yp hg BK2;replace BK1:=yb BK1 hb;replace BK2:=yb BK2 hb;replace HB:=yB HB hb;clear hb hbox hg;have hnb7:=NB3_1.out;have hnc7:=NB1_3.out;have hnb8:=NB3_2.out;have hnc8:=NB2_3.out;obtain ⟨hcz9_0,hcz9_1,hcz9_2,hfz9_0,hfz9_1,hfz9_2⟩:=blk3 BK3.out;obtain ⟨hcz10_0,hcz10_1,hcz10_2,hfz10_0,hfz10_1,hfz10_2⟩:=blk3 BK1.out))
 try simp only [Act.put,zt,zv,zu]
 go_loopg [14] k (fun kq v14 w'=>∃ (x14_1:Int) (x52004002_1:List (S43)) (u52004002:Value),v14 = .int .i64 x14_1∧Aside0 (impl_cloneRegex.l0 kq l0_2 (l0_2.length:Int) x14_1 a0_0 a0_1 x52004002_1=some (r1,r2,r3))∧Aside0 (kq≤k)∧Aside0 (Kd.S kS 43 w' w.heap.size (fun k_=>k_ ≠ gb1∧k_ ≠ gb2∧k_ ≠ gb3) u52004002 x52004002_1)∧Aside0 (w'.heap[gb1]? = some (.cells #[.int .i64 a0_0,.string a0_1,(.slice A0_2 l0_2.length c0_2)] 43 (0,0)))∧Aside0 (w'.heap[gb2]? = some (.cells #[.int .i64 0,.string ⟨#[]⟩,(.slice none 0 0)] 43 (0,0)))∧Aside0 (w'.heap[gb3]? = some (.cells #[.int .i64 a0_0,.string a0_1,u52004002] 43 (0,0)))∧Aside0 (Below w.heap.size w w'))
 case atStart=>exact ⟨(0),(([]:List (S43))),(.slice none 0 0),za9,H',⟨Nat.le_refl _⟩,⟨za29⟩,⟨zpw BK1.out⟩,⟨zpw BK2.out⟩,⟨zpu BK3.out⟩,⟨za5⟩⟩
 case round =>
  clear H'
  try clear hcz10_0
  try clear hcz10_1
  try clear hcz10_2
  try clear hcz5_0
  try clear hcz5_1
  try clear hcz5_2
  try clear hcz9_0
  try clear hcz9_1
  try clear hcz9_2
  try clear hfz10_0
  try clear hfz10_1
  try clear hfz10_2
  try clear hfz5_0
  try clear hfz5_1
  try clear hfz5_2
  try clear hfz9_0
  try clear hfz9_1
  try clear hfz9_2
  obtain ⟨x14_1,x52004002_1,u52004002,rfl,HA,HK1,HO_52004002,BK1,BK2,BK3,HB⟩:=hrel
  cases gk with
  | zero=>exact absurd HA.out (by simp [impl_cloneRegex.l0])
  | succ k1 =>
   have H:=HA.out
   clear HA
   simp only [impl_cloneRegex.l0] at H
   by_cases c11:x14_1 < (l0_2.length:Int)
   rw [if_pos c11] at H
   have c11b0:=zdl c11
   clear c11
   by_cases c12:0≤x14_1
   rw [if_pos c12] at H
   have c12b0:=zdle c12
   clear c12
   by_cases c13:x14_1 < (l0_2.length:Int)
   rw [if_pos c13] at H
   have c13b0:=zdl c13
   clear c13
   obtain ⟨⟨t6,t7,t8⟩,A14,H⟩:=zO H
   try dsimp only at H
   by_cases c15:x52004002_1.length < 2932031007402
   ·rw [if_pos c15] at H
    have LMc15:=zk c15
    clear c15
    obtain ⟨y52011,hy52011⟩:∃ y_:List (S43),y_=(x52004002_1 ++ [(⟨t6,t7,t8⟩:S43)]):=⟨_,rfl⟩
    replace H:(impl_cloneRegex.l0 k1 l0_2 (l0_2.length:Int) (wrap64 (x14_1+1)) a0_0 a0_1 y52011)=some (r1,r2,r3):=by first|(rw [hy52011];with_reducible exact H)|(have H2_:=(Option.bind_some _ _).symm.trans H;rw [hy52011];with_reducible exact H2_)|(have H2_:=(Option.bind_some _ _).symm.trans H;with_reducible exact H2_)|with_reducible exact H|(rw [hy52011];exact H)|exact H
    have Ny11:=zk hy52011
    clear hy52011
    have H':=zk H
    clear H
    have p52004:0≤(x14_1:Int):=of_decide_eq_true za7
    have q52004:x14_1 < (l0_2.length:Int):=of_decide_eq_true za7
    obtain ⟨ad52004,A52004_2,c52004_2,e52004,hx52004_0,hx52004_1,hx52004_2,hl52004_2,hi52004_2⟩:=at_T43 HR0_2.out x14_1 p52004 q52004
    cases e52004
    replace hx52004_0:=zx HB.out hx52004_0
    replace hx52004_1:=zx HB.out hx52004_1
    replace hx52004_2:=zx HB.out hx52004_2
    have HR52004_2:=zk hi52004_2
    have HC52004_2:=zk hl52004_2
    clear hi52004_2 hl52004_2
    replace p52004:=eq_true p52004
    replace q52004:=eq_true q52004
    try go_wp2_with (first|((with_reducible refine gate_dst (N:=5) rfl ?_);refine zE (cs:=#[.int .i64 0,.string ⟨#[]⟩,.slice none 0 0]) (t:=43) ?_;intro gb5 hg w16 hbox hb;replace HO_52004002:=zk (Kd.S_below (Kd.S_elderB (za1 HO_52004002.out) gb5 (Nat.le_of_eq hg.symm)) hb);have BK5:=zk hbox;have GW5:=zk (zs (w:=w) hg za5);have GE5:=GW5;have NB1_5:=yn hg BK1;have NB5_1:=yp hg BK1;have NB2_5:=yn hg BK2;have NB5_2:=yp hg BK2;have NB3_5:=yn hg BK3;have NB5_3:=yp hg BK3;replace BK1:=yb BK1 hb;replace BK2:=yb BK2 hb;replace BK3:=yb BK3 hb;replace HB:=yB HB hb;clear hb hbox hg;have hnb17:=NB5_1.out;have hnc17:=NB1_5.out;have hnb18:=NB5_2.out;have hnc18:=NB2_5.out;have hnb19:=NB5_3.out;have hnc19:=NB3_5.out;obtain ⟨hcz20_0,hcz20_1,hcz20_2,hfz20_0,hfz20_1,hfz20_2⟩:=blk3 BK5.out))
    have n0_:Aside0 (Kd.S kS 43 (((w16.setCell ⟨gb5,0,none⟩ (.int .i64 ((rd_T43 l0_2 x14_1).f0))).setCell ⟨gb5,1,none⟩ (.string ((rd_T43 l0_2 x14_1).f1))).setCell ⟨gb5,2,none⟩ (.slice A52004_2 ((rd_T43 l0_2 x14_1).f2).length c52004_2)) w.heap.size (fun k_=>k_ ≠ gb1∧k_ ≠ gb2∧k_ ≠ gb3∧k_ ≠ gb5) u52004002 x52004002_1):=⟨by (with_reducible repeat (first|apply Kd.S_alloc|apply Kd.S_drewN|apply Kd.S_drew));exact Kd.S_mono (zfS (zfS (zfS (Kd.S_mono HO_52004002.out (fun k_ hk=>(⟨hk,hk.2⟩:_∧k_ ≠ gb5)))))) (fun _ hk=>⟨hk.1.1.1,⟨hk.1.1.2.1,⟨hk.1.1.2.2,hk.1.2⟩⟩⟩)⟩
    have n1_:Aside0 ((((w16.setCell ⟨gb5,0,none⟩ (.int .i64 ((rd_T43 l0_2 x14_1).f0))).setCell ⟨gb5,1,none⟩ (.string ((rd_T43 l0_2 x14_1).f1))).setCell ⟨gb5,2,none⟩ (.slice A52004_2 ((rd_T43 l0_2 x14_1).f2).length c52004_2)).heap[gb1]? = some (.cells #[.int .i64 a0_0,.string a0_1,.slice (some ad52004) l0_2.length c0_2] 43 (0,0))):=⟨zpw BK1.out⟩
    have n2_:Aside0 ((((w16.setCell ⟨gb5,0,none⟩ (.int .i64 ((rd_T43 l0_2 x14_1).f0))).setCell ⟨gb5,1,none⟩ (.string ((rd_T43 l0_2 x14_1).f1))).setCell ⟨gb5,2,none⟩ (.slice A52004_2 ((rd_T43 l0_2 x14_1).f2).length c52004_2)).heap[gb2]? = some (.cells #[.int .i64 0,.string ⟨#[]⟩,.slice none 0 0] 43 (0,0))):=⟨zpw BK2.out⟩
    have n3_:Aside0 ((((w16.setCell ⟨gb5,0,none⟩ (.int .i64 ((rd_T43 l0_2 x14_1).f0))).setCell ⟨gb5,1,none⟩ (.string ((rd_T43 l0_2 x14_1).f1))).setCell ⟨gb5,2,none⟩ (.slice A52004_2 ((rd_T43 l0_2 x14_1).f2).length c52004_2)).heap[gb3]? = some (.cells #[.int .i64 a0_0,.string a0_1,u52004002] 43 (0,0))):=⟨zpw BK3.out⟩
    have n4_:Aside0 ((((w16.setCell ⟨gb5,0,none⟩ (.int .i64 ((rd_T43 l0_2 x14_1).f0))).setCell ⟨gb5,1,none⟩ (.string ((rd_T43 l0_2 x14_1).f1))).setCell ⟨gb5,2,none⟩ (.slice A52004_2 ((rd_T43 l0_2 x14_1).f2).length c52004_2)).heap[gb5]? = some (.cells #[.int .i64 ((rd_T43 l0_2 x14_1).f0),.string ((rd_T43 l0_2 x14_1).f1),.slice A52004_2 ((rd_T43 l0_2 x14_1).f2).length c52004_2] 43 (0,0))):=⟨zpu BK5.out⟩
    have n5_:Aside0 (Below w.heap.size w (((w16.setCell ⟨gb5,0,none⟩ (.int .i64 ((rd_T43 l0_2 x14_1).f0))).setCell ⟨gb5,1,none⟩ (.string ((rd_T43 l0_2 x14_1).f1))).setCell ⟨gb5,2,none⟩ (.slice A52004_2 ((rd_T43 l0_2 x14_1).f2).length c52004_2))):=⟨za5⟩
    (try clear HO_52004002)
    (try clear BK1)
    (try clear BK2)
    (try clear BK3)
    (try clear BK5)
    (try clear HB)
    generalize (((w16.setCell ⟨gb5,0,none⟩ (.int .i64 ((rd_T43 l0_2 x14_1).f0))).setCell ⟨gb5,1,none⟩ (.string ((rd_T43 l0_2 x14_1).f1))).setCell ⟨gb5,2,none⟩ (.slice A52004_2 ((rd_T43 l0_2 x14_1).f2).length c52004_2))=w21 at n0_ n1_ n2_ n3_ n4_ n5_ ⊢
    have HO_52004002:=n0_
    have BK1:=n1_
    have BK2:=n2_
    have BK3:=n3_
    have BK5:=n4_
    have HB:=n5_
    clear n0_ n1_ n2_ n3_ n4_ n5_
    replace HO_52004002:=zk (Kd.S_drew HO_52004002.out)
    replace BK1:=zk (blk_drew BK1.out)
    replace BK2:=zk (blk_drew BK2.out)
    replace BK3:=zk (blk_drew BK3.out)
    replace BK5:=zk (blk_drew BK5.out)
    replace HB:=zk (below_drew1 HB.out)
    refine start_ (n:=8) (S:=fun w'=>w'.cell? ⟨gb3,0,none⟩=some (.int .i64 a0_0)∧w'.cell? ⟨gb3,1,none⟩=some (.string a0_1)∧w'.cell? ⟨gb3,2,none⟩=some (u52004002)∧w'.cell? ⟨gb5,0,none⟩=some (.int .i64 ((rd_T43 l0_2 x14_1).f0))∧w'.cell? ⟨gb5,1,none⟩=some (.string ((rd_T43 l0_2 x14_1).f1))∧w'.cell? ⟨gb5,2,none⟩=some (.slice A52004_2 ((rd_T43 l0_2 x14_1).f2).length c52004_2)) (ds:=[7]) #[false,false,false,false,false,false,false,false] (by kernel_rfl) rfl rfl ⟨(blk_cell BK3.out 0).trans rfl,(blk_cell BK3.out 1).trans rfl,(blk_cell BK3.out 2).trans rfl,(blk_cell BK5.out 0).trans rfl,(blk_cell BK5.out 1).trans rfl,(blk_cell BK5.out 2).trans rfl⟩ (fun hHeld=>?_);refine with_tabW impl_cloneRegex.tab5 impl_cloneRegex.bits5 (fun HT_ HW_=>?_)
    generalize w21.drew=w22 at HO_52004002 BK1 BK2 BK3 BK5 HB hHeld ⊢
    refine zy 0 (some 18) HT_.out ?_
    refine ztk 1 (some 19) HT_.out HW_.out hHeld ?_
    refine ztk 2 (some 20) HT_.out HW_.out hHeld ?_
    refine zon 3 (some 21) HT_.out (fun K hK=>?_)
    refine goes_ Try.func52 (by kernel_rfl) rfl #[.agg #[.int .i64 ((rd_T43 l0_2 x14_1).f0),.string ((rd_T43 l0_2 x14_1).f1),.slice A52004_2 ((rd_T43 l0_2 x14_1).f2).length c52004_2]] (by rfl) rfl rfl za6 ?_
    with_reducible refine (ih k1 za11 ((rd_T43 l0_2 x14_1).f0) ((rd_T43 l0_2 x14_1).f1) _ _ ((rd_T43 l0_2 x14_1).f2) t6 t7 t8 _ ?side1 ?side2 A14.out).mono ?_
    (case side1=>repeat (first|exact (Kd.C_below HR52004_2.out HB.out)|(with_reducible refine Kd.C_alloc ?_ _)|(with_reducible refine Kd.C_drewN ?_ _)|(with_reducible refine Kd.C_drew ?_)))
    (case side2=>exact HC52004_2.out)
    rintro e w23 ⟨v9,rfl,ho0,hb⟩
    obtain ⟨N_,hO_,ho0⟩:=S_call (za1 HO_52004002.out) ho0 hb
    refine ⟨_,rfl,?_⟩
    have HO10:=zk (Kd.S_lower (Kd.S_newB (Kd.S_newB (Kd.S_newB (Kd.S_newB (Kd.S_new' ho0 (Kd.S_lt (za1 HO_52004002.out))) (g:=gb1) (o:=.cells #[.int .i64 a0_0,.string a0_1,.slice (some ad52004) l0_2.length c0_2] 43 (0,0)) (za0 BK1.out)) (g:=gb2) (o:=.cells #[.int .i64 0,.string ⟨#[]⟩,.slice none 0 0] 43 (0,0)) (za0 BK2.out)) (g:=gb3) (o:=.cells #[.int .i64 a0_0,.string a0_1,u52004002] 43 (0,0)) (za0 BK3.out)) (g:=gb5) (o:=.cells #[.int .i64 ((rd_T43 l0_2 x14_1).f0),.string ((rd_T43 l0_2 x14_1).f1),.slice A52004_2 ((rd_T43 l0_2 x14_1).f2).length c52004_2] 43 (0,0)) (za0 BK5.out)) (below_size za5))
    replace HO_52004002:=zk hO_
    replace BK1:=yb BK1 hb
    replace BK2:=yb BK2 hb
    replace BK3:=yb BK3 hb
    replace BK5:=yb BK5 hb
    replace HB:=yB HB hb
    (try clear hb)
    (try clear hb2)
    (try clear hk)
    (try clear hi)
    (try clear ho0)
    obtain ⟨Ao25,co25,eo25⟩:=Kd.S_slice HO10.out
    (first|subst eo25|(injection eo25 with f1_ f2_ f3_;have f4_:=f1_.symm;have f5_:=f3_.symm;clear f1_ f2_ f3_;subst f4_;subst f5_))
    refine hK.out _ _ ⟨(blk_cell BK3.out 0).trans rfl,(blk_cell BK3.out 1).trans rfl,(blk_cell BK3.out 2).trans rfl,(blk_cell BK5.out 0).trans rfl,(blk_cell BK5.out 1).trans rfl,(blk_cell BK5.out 2).trans rfl⟩ (fun hHeld=>?_)
    clear hK K
    refine zno (some 21) ?_
    refine zon 4 (some 22) HT_.out (fun K hK=>?_)
    refine value_ (w1:=?_) (v:=?_) (by rfl) rfl ?_ ?_
    rotate_left 2
    ·go_simp
     constructor
     ·rfl
     ·rfl
    refine hK.out _ _ ⟨(blk_cell (blk_alloc BK3.out _) 0).trans rfl,(blk_cell (blk_alloc BK3.out _) 1).trans rfl,(blk_cell (blk_alloc BK3.out _) 2).trans rfl,(blk_cell (blk_alloc BK5.out _) 0).trans rfl,(blk_cell (blk_alloc BK5.out _) 1).trans rfl,(blk_cell (blk_alloc BK5.out _) 2).trans rfl⟩ (fun hHeld=>?_)
    clear hK K
    refine zno (some 22) ?_
    refine zon 5 (some 23) HT_.out (fun K hK=>?_)
    refine Kd.S_append_step kS (w0:=w) w.heap.size (by rfl) (.tmp 19) (.tmp 22) 41 43 (.agg #[(.int .i64 0),(.string ⟨#[]⟩),(.slice none 0 0)]) 48 rfl Try.underlying41 info43 rfl (by decide) (by omega) u52004002 x52004002_1 (⟨t6,t7,t8⟩:S43) [.int .i64 t6,.string t7,.slice Ao25 t8.length co25] (fun k_=>k_ ≠ gb1∧k_ ≠ gb2∧k_ ≠ gb3∧k_ ≠ gb5) (fun k_=>(fun k_=>((fun k_=>k_ ≠ gb1∧k_ ≠ gb2∧k_ ≠ gb3∧k_ ≠ gb5)) k_∧some k_ ≠ (u52004002:Value).ownBlock) k_∧N_≤k_) rfl rfl ?aP (fun _ hk=>hk.1) ?aF ?aO ?aB ?aS ?aL ?_
    (case aP=>exact kS_mkM _ _ _ (⟨t6,t7,t8⟩:S43) (Kd.S_mono (HO10.out) (fun k_ hk=>⟨⟨⟨hk.1.1.1.2,⟨hk.1.1.2,⟨hk.1.2,hk.2⟩⟩⟩,hk.1.1.1.1.2⟩,hk.1.1.1.1.1.2⟩)))
    (case aB=>exact za5)
    (case aF=>exact (fun k_ hk=>⟨zF BK1.out k_ hk,zF BK2.out k_ hk,zF BK3.out k_ hk,zF BK5.out k_ hk⟩))
    (case aO=>exact (by (with_reducible repeat (first|apply Kd.S_alloc|apply Kd.S_drewN|apply Kd.S_drew));exact Kd.S_mono HO_52004002.out (fun _ hk=>⟨⟨hk.1.1,⟨hk.1.2.1,⟨hk.1.2.2.1,hk.1.2.2.2⟩⟩⟩,fun h_=>Nat.not_le.2 hk.2.2 h_.2⟩)))
    (case aS=>exact (below_size za5))
    (case aL=>have:=LMc15.out;omega)
    intro v12 w24 ho hb hg hat
    rw [← Ny11.out] at ho
    replace BK1:=zk (blk_grown (g:=gb1) (o:=.cells #[.int .i64 a0_0,.string a0_1,.slice (some ad52004) l0_2.length c0_2] 43 (0,0)) (za0 BK1.out) hg (Kd.S_away HO_52004002.out (fun _ hk=>hk.1.1)))
    replace BK2:=zk (blk_grown (g:=gb2) (o:=.cells #[.int .i64 0,.string ⟨#[]⟩,.slice none 0 0] 43 (0,0)) (za0 BK2.out) hg (Kd.S_away HO_52004002.out (fun _ hk=>hk.1.2.1)))
    replace BK3:=zk (blk_grown (g:=gb3) (o:=.cells #[.int .i64 a0_0,.string a0_1,u52004002] 43 (0,0)) (za0 BK3.out) hg (Kd.S_away HO_52004002.out (fun _ hk=>hk.1.2.2.1)))
    replace BK5:=zk (blk_grown (g:=gb5) (o:=.cells #[.int .i64 ((rd_T43 l0_2 x14_1).f0),.string ((rd_T43 l0_2 x14_1).f1),.slice A52004_2 ((rd_T43 l0_2 x14_1).f2).length c52004_2] 43 (0,0)) (za0 BK5.out) hg (Kd.S_away HO_52004002.out (fun _ hk=>hk.1.2.2.2)))
    replace HB:=zk hb
    have HO13:=zk ho
    clear HO_52004002
    clear HO10
    clear ho hb hg hat
    obtain ⟨Ao26,co26,eo26⟩:=Kd.S_slice HO13.out
    (first|subst eo26|(injection eo26 with f1_ f2_ f3_;have f4_:=f1_.symm;have f5_:=f3_.symm;clear f1_ f2_ f3_;subst f4_;subst f5_))
    refine hK.out _ _ ⟨(blk_cell BK3.out 0).trans rfl,(blk_cell BK3.out 1).trans rfl,(blk_cell BK3.out 2).trans rfl,(blk_cell BK5.out 0).trans rfl,(blk_cell BK5.out 1).trans rfl,(blk_cell BK5.out 2).trans rfl⟩ (fun hHeld=>?_)
    clear hK K
    refine zno (some 23) ?_
    refine zy 6 (some 24) HT_.out ?_
    refine last_ (i:=7) (N:=none) #[true,true,true,true,true,true,true,true] rfl rfl (one_of HT_.out (by kernel_rfl)) (by decide) (fun K hK=>?_)
    have hs27:w24.cell? ⟨gb3,2,none⟩=some (u52004002):=(blk_cell BK3.out 2).trans rfl
    have hfs27:=blk_frozen BK3.out 2
    have hns27_0:=NB1_3.out
    have hns27_1:=NB2_3.out
    have hns27_3:=NB5_3.out
    have hms27_0:=NB3_1.out
    have hms27_1:=NB3_2.out
    have hms27_3:=NB3_5.out
    refine skip_ (w1:=?_) (by rfl) rfl ?_ ?_
    rotate_left
    ·go_simp
     rfl
    refine hK.out _ _ ?_
    clear hK K
    refine done_ (done_of HT_.out (by kernel_rfl)) ?_
    try go_wp2
    go_roundg k1
    case measure=>have:=HK1.out;omega
    case rel=>exact ⟨(wrap64 (x14_1+1)),(y52011),(.slice Ao26 y52011.length co26),za9,H',⟨za11⟩,⟨by (with_reducible repeat (first|apply Kd.S_alloc|apply Kd.S_drewN|apply Kd.S_drew));exact Kd.S_mono (zfS (Kd.S_mono HO13.out (fun k_ hk=>(⟨hk,hk.2.2.1⟩:_∧k_ ≠ gb3)))) (fun _ hk=>⟨hk.1.1,⟨hk.1.2.1,hk.1.2.2.1⟩⟩)⟩,⟨zpw BK1.out⟩,⟨zpw BK2.out⟩,⟨zpu BK3.out⟩,⟨za5⟩⟩
   ·rw [if_neg c15] at H
    exact absurd H (by simp)
   ·rw [if_neg c13] at H
    exact absurd H (by simp)
   ·rw [if_neg c12] at H
    exact absurd H (by simp)
   ·rw [if_neg c11] at H
    have c11b0:=zdnl c11
    clear c11
    simp only [Option.some.injEq,Prod.mk.injEq] at H
    obtain ⟨rfl,rfl,rfl⟩:=H
    have hnb28:=NB3_1.out
    have hnc28:=NB1_3.out
    have hnb29:=NB3_2.out
    have hnc29:=NB2_3.out
    obtain ⟨hcz30_0,hcz30_1,hcz30_2,hfz30_0,hfz30_1,hfz30_2⟩:=blk3 BK3.out
    have hnb31:=NB2_1.out
    have hnc31:=NB1_2.out
    obtain ⟨hcz32_0,hcz32_1,hcz32_2,hfz32_0,hfz32_1,hfz32_2⟩:=blk3 BK2.out
    obtain ⟨Ao33,co33,eo33⟩:=Kd.S_slice HO_52004002.out
    subst eo33
    go_wp2
    refine bodyPost_ret (results_cell_row rfl _ _ gb2 43 #[.int .i64 a0_0,.string a0_1,.slice Ao33 x52004002_1.length co33] (0,0) _ rfl (zpu BK2.out) Try.underlying43 rfl (by kernel_rfl)) rfl ?_
    exact ⟨_,za8,by (with_reducible repeat (first|apply Kd.S_alloc|apply Kd.S_drewN|apply Kd.S_drew));exact Kd.S_mono (zfS (zfS (zfS (Kd.S_mono HO_52004002.out (fun k_ hk=>(⟨hk,hk.2.1⟩:_∧k_ ≠ gb2)))))) (fun _ hk=>trivial),za5⟩
theorem impl_cloneConstraint.apart (k:Nat) (a0_0:Int) (a0_1:ByteArray) (a0_2:ByteArray) (a0_3:Int) (a0_4:ByteArray) (A0_5:Option Addr) (c0_5:Nat) (l0_5:List (S43)) (A0_6:Option Addr) (c0_6:Nat) (l0_6:List Int) (a0_7:Int) (r1:Int) (r2:ByteArray) (r3:ByteArray) (r4:Int) (r5:ByteArray) (r6:List (S43)) (r7:List Int) (r8:Int) (w:World) (hr0_5:Kd.C k43 w A0_5 l0_5.length l0_5) (hc0_5:l0_5.length≤c0_5) (hr0_6:Kd.C (Kd.int .i64) w A0_6 l0_6.length l0_6) (hc0_6:l0_6.length≤c0_6) (h:impl_cloneConstraint.f k a0_0 a0_1 a0_2 a0_3 a0_4 l0_5 l0_6 a0_7=some (r1,r2,r3,r4,r5,r6,r7,r8)) :
  Calls Try.prog 30 #[.agg #[.int .i64 a0_0,.string a0_1,.string a0_2,.int .i64 a0_3,.string a0_4,.slice A0_5 l0_5.length c0_5,.slice A0_6 l0_6.length c0_6,.int .i64 a0_7]] w fun e w'=>∃ v5_ v6_:Value,e = .returned (.agg #[.int .i64 r1,.string r2,.string r3,.int .i64 r4,.string r5,v5_,v6_,.int .i64 r8])∧Kd.S kS 43 w' w.heap.size (fun _=>True) v5_ r6∧Kd.R (Kd.int .i64) 3 w' w.heap.size (fun _=>True) v6_ r7∧Below w.heap.size w w':=by
 have hu46:=Try.underlying46
 have hu43:=Try.underlying43
 have HR0_5:=zk hr0_5
 have HC0_5:=zk hc0_5
 clear hr0_5 hc0_5
 have HR0_6:=zk hr0_6
 have HC0_6:=zk hc0_6
 clear hr0_6 hc0_6
 have HB:=zk (Below.refl w.heap.size w)
 have H:=h
 unfold impl_cloneConstraint.f at H
 clear h
 obtain ⟨⟨t3,t4,t5⟩,A2,H⟩:=zO H
 try dsimp only at H
 obtain ⟨t8,A3,H⟩:=zO H
 try dsimp only at H
 simp only [Option.some.injEq,Prod.mk.injEq] at H
 obtain ⟨rfl,rfl,rfl,rfl,rfl,rfl,rfl,rfl⟩:=H
 go_enter Try.func30,Try.ntmps30
 go_wp2_with (first|((with_reducible refine gate_dst (N:=1) rfl ?_);refine zE (cs:=#[.int .i64 a0_0,.string a0_1,.string a0_2,.int .i64 a0_3,.string a0_4,.slice A0_5 l0_5.length c0_5,.slice A0_6 l0_6.length c0_6,.int .i64 a0_7]) (t:=46) ?_;intro gb1 hg w4 hbox hb;have BK1:=zk hbox;have GW1:=zk (zs (w:=w) hg za5);have GE1:=GW1;replace HB:=yB HB hb;clear hb hbox hg)|((with_reducible refine gate_dst (N:=2) rfl ?_);refine zE (cs:=#[.int .i64 0,.string ⟨#[]⟩,.string ⟨#[]⟩,.int .i64 0,.string ⟨#[]⟩,.slice none 0 0,.slice none 0 0,.int .i64 0]) (t:=46) ?_;intro gb2 hg w5 hbox hb;have BK2:=zk hbox;have GW2:=zk (zs (w:=w) hg za5);have GE2:=GW2;have NB1_2:=yn hg BK1;have NB2_1:=yp hg BK1;replace BK1:=yb BK1 hb;replace HB:=yB HB hb;clear hb hbox hg;have hnb6:=NB1_2.out;have hnc6:=NB2_1.out;obtain ⟨hcz7_0,hcz7_1,hcz7_2,hcz7_3,hcz7_4,hcz7_5,hcz7_6,hcz7_7,hfz7_0,hfz7_1,hfz7_2,hfz7_3,hfz7_4,hfz7_5,hfz7_6,hfz7_7⟩:=blk8 BK1.out)|((with_reducible refine gate_callee (f:=52) rfl ?_);refine zg (some 5) Try.func52 #[.agg #[.int .i64 a0_3,.string a0_4,.slice A0_5 l0_5.length c0_5]] rfl za6 ?_;(with_reducible refine (impl_cloneRegex.apart k a0_3 a0_4 _ _ l0_5 t3 t4 t5 _ ?side1 ?side2 A2.out).mono ?_);(case side1=>repeat (first|exact (Kd.C_below HR0_5.out HB.out)|(with_reducible refine Kd.C_alloc ?_ _)|(with_reducible refine Kd.C_drewN ?_ _)|(with_reducible refine Kd.C_drew ?_)));(case side2=>exact HC0_5.out);rintro e w8 ⟨v6,rfl,ho0,hb⟩;refine ⟨_,rfl,?_⟩;have HO7:=zk (Kd.S_lower ho0 (below_size za5));replace BK1:=yb BK1 hb;replace BK2:=yb BK2 hb;replace HB:=yB HB hb;(try clear hb ho0);obtain ⟨hcz9_0,hcz9_1,hcz9_2,hcz9_3,hcz9_4,hcz9_5,hcz9_6,hcz9_7,hfz9_0,hfz9_1,hfz9_2,hfz9_3,hfz9_4,hfz9_5,hfz9_6,hfz9_7⟩:=blk8 BK1.out;obtain ⟨Ao10,co10,eo10⟩:=Kd.S_slice HO7.out;subst eo10)|((with_reducible refine gate_callee (f:=53) rfl ?_);refine zg (some 9) Try.func53 #[.slice A0_6 l0_6.length c0_6] rfl za6 ?_;(with_reducible refine (slices_Clone_int_int.calls _ _ l0_6 t8 _ ?side1 ?side2 A3.out).mono ?_);(case side1=>exact Kd.C_below HR0_6.out za5);(case side2=>exact HC0_6.out);rintro e w11 ⟨v9,rfl,ho0,hb⟩;refine ⟨_,rfl,?_⟩;replace HO7:=zk (Kd.S_below (by (with_reducible repeat (first|apply Kd.S_alloc|apply Kd.S_drewN|apply Kd.S_drew));exact (Kd.S_mono (zfS (zfS (zfS (Kd.S_types HO7.out BK1.out (by decide))))) (fun _ h_=>h_.1))) hb);have HO10:=zk (Kd.R_lower ho0 (below_size za5));replace BK2:=zk (blk_below (g:=gb2) (o:=.cells #[.int .i64 0,.string ⟨#[]⟩,.string ⟨#[]⟩,.int .i64 0,.string ⟨#[]⟩,.slice none 0 0,.slice none 0 0,.int .i64 0] 46 (0,0)) (zpw BK2.out) hb);replace BK1:=zk (blk_below (g:=gb1) (o:=.cells #[.int .i64 a0_0,.string a0_1,.string a0_2,.int .i64 t3,.string t4,.slice Ao10 t5.length co10,.slice A0_6 l0_6.length c0_6,.int .i64 a0_7] 46 (0,0)) (zpu BK1.out) hb);replace HB:=yB HB hb;(try clear hb ho0);obtain ⟨Ao12,co12,eo12⟩:=Kd.R_slice HO10.out;subst eo12;obtain ⟨hcz13_0,hcz13_1,hcz13_2,hcz13_3,hcz13_4,hcz13_5,hcz13_6,hcz13_7,hfz13_0,hfz13_1,hfz13_2,hfz13_3,hfz13_4,hfz13_5,hfz13_6,hfz13_7⟩:=blk8 BK1.out;obtain ⟨hcz14_0,hcz14_1,hcz14_2,hcz14_3,hcz14_4,hcz14_5,hcz14_6,hcz14_7,hfz14_0,hfz14_1,hfz14_2,hfz14_3,hfz14_4,hfz14_5,hfz14_6,hfz14_7⟩:=blk8 BK2.out))
 refine bodyPost_ret (results_cell_row rfl _ _ gb2 46 #[.int .i64 a0_0,.string a0_1,.string a0_2,.int .i64 t3,.string t4,.slice Ao10 t5.length co10,.slice Ao12 t8.length co12,.int .i64 a0_7] (0,0) _ rfl (zpw BK2.out) Try.underlying46 rfl (by kernel_rfl)) rfl ?_
 exact ⟨_,_,za8,by (with_reducible repeat (first|apply Kd.S_alloc|apply Kd.S_drewN|apply Kd.S_drew));exact Kd.S_mono (zfS (zfS (zfS (zfS (zfS (zfS (zfS (zfS (Kd.S_far (p:=⟨gb1,6,none⟩) (Kd.S_types (Kd.S_types HO7.out BK1.out (by decide)) BK2.out (by decide)) (fun _ hk=>hk.1.2) (.slice Ao12 t8.length co12)))))))))) (fun _ hk=>trivial),by (with_reducible repeat (first|apply Kd.R_alloc|apply Kd.R_drewN|apply Kd.R_drew));exact Kd.R_mono (zfR (zfR (zfR (zfR (zfR (zfR (zfR (zfR (Kd.R_far (p:=⟨gb1,6,none⟩) (Kd.R_types (Kd.R_types HO10.out BK1.out (by decide)) BK2.out (by decide)) (fun _ hk=>hk.1.2) (.slice Ao12 t8.length co12)))))))))) (fun _ hk=>trivial),za5⟩
theorem impl_cloneProblem.apart (k:Nat) (A0_0:Option Addr) (c0_0:Nat) (l0_0:List (S46)) (r:List (S46)) (w:World) (hr0_0:Kd.C k46 w A0_0 l0_0.length l0_0) (hc0_0:l0_0.length≤c0_0) (h:impl_cloneProblem.f k l0_0=some r) :
   Calls Try.prog 18 #[.agg #[.slice A0_0 l0_0.length c0_0]] w fun e w'=>∃ v0_:Value,e = .returned (.agg #[v0_])∧Kd.S kCS 46 w' w.heap.size (fun _=>True) v0_ r∧Below w.heap.size w w':=by
 have hu28:=Try.underlying28
 have hu46:=Try.underlying46
 have HR0_0:=zk hr0_0
 have HC0_0:=zk hc0_0
 clear hr0_0 hc0_0
 have HB:=zk (Below.refl w.heap.size w)
 have H:=h
 unfold impl_cloneProblem.f at H
 clear h
 have H':=zk H
 clear H
 go_enter Try.func18,Try.ntmps18
 go_wp2_with (first|((with_reducible refine gate_dst (N:=1) rfl ?_);refine zE (cs:=#[.slice A0_0 l0_0.length c0_0]) (t:=28) ?_;intro gb1 hg w2 hbox hb;have BK1:=zk hbox;have GW1:=zk (zs (w:=w) hg za5);have GE1:=GW1;replace HB:=yB HB hb;clear hb hbox hg)|((with_reducible refine gate_dst (N:=2) rfl ?_);refine zE (cs:=#[.slice none 0 0]) (t:=28) ?_;intro gb2 hg w3 hbox hb;have BK2:=zk hbox;have GW2:=zk (zs (w:=w) hg za5);have GE2:=GW2;have NB1_2:=yn hg BK1;have NB2_1:=yp hg BK1;replace BK1:=yb BK1 hb;replace HB:=yB HB hb;clear hb hbox hg)|((with_reducible refine gate_dst (N:=3) rfl ?_);refine zE (cs:=#[.slice none 0 0]) (t:=28) ?_;intro gb3 hg w4 hbox hb;have BK3:=zk hbox;have GW3:=zk (zs (w:=w) hg za5);have GE3:=GW3;have NB1_3:=yn hg BK1;have NB3_1:=yp hg BK1;have NB2_3:=yn hg BK2;have NB3_2:=yp hg BK2;replace BK1:=yb BK1 hb;replace BK2:=yb BK2 hb;replace HB:=yB HB hb;clear hb hbox hg;have hnb5:=NB3_1.out;have hnc5:=NB1_3.out;have hnb6:=NB3_2.out;have hnc6:=NB2_3.out;obtain ⟨hcz7_0,hfz7_0⟩:=blk1 BK3.out;have hnb8:=NB1_2.out;have hnc8:=NB2_1.out;obtain ⟨hcz9_0,hfz9_0⟩:=blk1 BK1.out))
 try simp only [Act.put,zt,zv,zu]
 go_loopg [10] k (fun kq v10 w'=>∃ (x10_1:Int) (x18004000_1:List (S46)) (u18004000:Value),v10 = .int .i64 x10_1∧Aside0 (impl_cloneProblem.l0 kq l0_0 (l0_0.length:Int) x10_1 x18004000_1=some r)∧Aside0 (kq≤k)∧Aside0 (Kd.S kCS 46 w' w.heap.size (fun _=>True) u18004000 x18004000_1)∧Aside0 (w'.heap[gb1]? = some (.cells #[(.slice A0_0 l0_0.length c0_0)] 28 (0,0)))∧Aside0 (w'.heap[gb2]? = some (.cells #[(.slice none 0 0)] 28 (0,0)))∧Aside0 (w'.heap[gb3]? = some (.cells #[u18004000] 28 (0,0)))∧Aside0 (Below w.heap.size w w'))
 case atStart=>exact ⟨(0),(([]:List (S46))),(.slice none 0 0),za9,H',⟨Nat.le_refl _⟩,⟨za29⟩,⟨zpw BK1.out⟩,⟨zpw BK2.out⟩,⟨zpu BK3.out⟩,⟨za5⟩⟩
 case round =>
  clear H'
  try clear hcz7_0
  try clear hcz9_0
  try clear hfz7_0
  try clear hfz9_0
  obtain ⟨x10_1,x18004000_1,u18004000,rfl,HA,HK1,HO_18004000,BK1,BK2,BK3,HB⟩:=hrel
  cases gk with
  | zero=>exact absurd HA.out (by simp [impl_cloneProblem.l0])
  | succ k1 =>
   have H:=HA.out
   clear HA
   simp only [impl_cloneProblem.l0] at H
   by_cases c10:x10_1 < (l0_0.length:Int)
   rw [if_pos c10] at H
   have c10b0:=zdl c10
   clear c10
   by_cases c11:0≤x10_1
   rw [if_pos c11] at H
   have c11b0:=zdle c11
   clear c11
   by_cases c12:x10_1 < (l0_0.length:Int)
   rw [if_pos c12] at H
   have c12b0:=zdl c12
   clear c12
   obtain ⟨⟨t6,t7,t8,t9,t10,t11,t14,t17⟩,A13,H⟩:=zO H
   try dsimp only at H
   by_cases c14:x18004000_1.length < 1172812402961
   ·rw [if_pos c14] at H
    have LMc14:=zk c14
    clear c14
    obtain ⟨y18018,hy18018⟩:∃ y_:List (S46),y_=(x18004000_1 ++ [(⟨t6,t7,t8,(⟨t9,t10,t11⟩:S43),t14,t17⟩:S46)]):=⟨_,rfl⟩
    replace H:(impl_cloneProblem.l0 k1 l0_0 (l0_0.length:Int) (wrap64 (x10_1+1)) y18018)=some r:=by first|(rw [hy18018];with_reducible exact H)|(have H2_:=(Option.bind_some _ _).symm.trans H;rw [hy18018];with_reducible exact H2_)|(have H2_:=(Option.bind_some _ _).symm.trans H;with_reducible exact H2_)|with_reducible exact H|(rw [hy18018];exact H)|exact H
    have Ny18:=zk hy18018
    clear hy18018
    have H':=zk H
    clear H
    have p18004:0≤(x10_1:Int):=of_decide_eq_true za7
    have q18004:x10_1 < (l0_0.length:Int):=of_decide_eq_true za7
    obtain ⟨ad18004,A18004_5,c18004_5,A18004_6,c18004_6,e18004,hx18004_0,hx18004_1,hx18004_2,hx18004_3,hx18004_4,hx18004_5,hx18004_6,hx18004_7,hl18004_5,hi18004_5,hl18004_6,hi18004_6⟩:=at_T46 HR0_0.out x10_1 p18004 q18004
    cases e18004
    replace hx18004_0:=zx HB.out hx18004_0
    replace hx18004_1:=zx HB.out hx18004_1
    replace hx18004_2:=zx HB.out hx18004_2
    replace hx18004_3:=zx HB.out hx18004_3
    replace hx18004_4:=zx HB.out hx18004_4
    replace hx18004_5:=zx HB.out hx18004_5
    replace hx18004_6:=zx HB.out hx18004_6
    replace hx18004_7:=zx HB.out hx18004_7
    have HR18004_5:=zk hi18004_5
    have HC18004_5:=zk hl18004_5
    clear hi18004_5 hl18004_5
    have HR18004_6:=zk hi18004_6
    have HC18004_6:=zk hl18004_6
    clear hi18004_6 hl18004_6
    replace p18004:=eq_true p18004
    replace q18004:=eq_true q18004
    try go_wp2_with (first|((with_reducible refine gate_dst (N:=5) rfl ?_);refine zE (cs:=#[.int .i64 0,.string ⟨#[]⟩,.string ⟨#[]⟩,.int .i64 0,.string ⟨#[]⟩,.slice none 0 0,.slice none 0 0,.int .i64 0]) (t:=46) ?_;intro gb5 hg w15 hbox hb;replace HO_18004000:=zk (Kd.S_below (Kd.S_elderB (za1 HO_18004000.out) gb5 (Nat.le_of_eq hg.symm)) hb);have BK5:=zk hbox;have GW5:=zk (zs (w:=w) hg za5);have GE5:=GW5;have NB1_5:=yn hg BK1;have NB5_1:=yp hg BK1;have NB2_5:=yn hg BK2;have NB5_2:=yp hg BK2;have NB3_5:=yn hg BK3;have NB5_3:=yp hg BK3;replace BK1:=yb BK1 hb;replace BK2:=yb BK2 hb;replace BK3:=yb BK3 hb;replace HB:=yB HB hb;clear hb hbox hg;have hnb16:=NB5_1.out;have hnc16:=NB1_5.out;have hnb17:=NB5_2.out;have hnc17:=NB2_5.out;have hnb18:=NB5_3.out;have hnc18:=NB3_5.out;obtain ⟨hcz19_0,hcz19_1,hcz19_2,hcz19_3,hcz19_4,hcz19_5,hcz19_6,hcz19_7,hfz19_0,hfz19_1,hfz19_2,hfz19_3,hfz19_4,hfz19_5,hfz19_6,hfz19_7⟩:=blk8 BK5.out))
    have n0_:Aside0 (Kd.S kCS 46 ((((((((w15.setCell ⟨gb5,0,none⟩ (.int .i64 ((rd_T46 l0_0 x10_1).f0))).setCell ⟨gb5,1,none⟩ (.string ((rd_T46 l0_0 x10_1).f1))).setCell ⟨gb5,2,none⟩ (.string ((rd_T46 l0_0 x10_1).f2))).setCell ⟨gb5,3,none⟩ (.int .i64 ((rd_T46 l0_0 x10_1).f3.f0))).setCell ⟨gb5,4,none⟩ (.string ((rd_T46 l0_0 x10_1).f3.f1))).setCell ⟨gb5,5,none⟩ (.slice A18004_5 ((rd_T46 l0_0 x10_1).f3.f2).length c18004_5)).setCell ⟨gb5,6,none⟩ (.slice A18004_6 ((rd_T46 l0_0 x10_1).f4).length c18004_6)).setCell ⟨gb5,7,none⟩ (.int .i64 ((rd_T46 l0_0 x10_1).f5))) w.heap.size (fun k_=>k_ ≠ gb5) u18004000 x18004000_1):=⟨by (with_reducible repeat (first|apply Kd.S_alloc|apply Kd.S_drewN|apply Kd.S_drew));exact Kd.S_mono (zfS (zfS (zfS (zfS (zfS (zfS (zfS (zfS (Kd.S_mono HO_18004000.out (fun k_ hk=>(⟨hk,hk.2⟩:_∧k_ ≠ gb5))))))))))) (fun _ hk=>hk.1.2)⟩
    have n1_:Aside0 (((((((((w15.setCell ⟨gb5,0,none⟩ (.int .i64 ((rd_T46 l0_0 x10_1).f0))).setCell ⟨gb5,1,none⟩ (.string ((rd_T46 l0_0 x10_1).f1))).setCell ⟨gb5,2,none⟩ (.string ((rd_T46 l0_0 x10_1).f2))).setCell ⟨gb5,3,none⟩ (.int .i64 ((rd_T46 l0_0 x10_1).f3.f0))).setCell ⟨gb5,4,none⟩ (.string ((rd_T46 l0_0 x10_1).f3.f1))).setCell ⟨gb5,5,none⟩ (.slice A18004_5 ((rd_T46 l0_0 x10_1).f3.f2).length c18004_5)).setCell ⟨gb5,6,none⟩ (.slice A18004_6 ((rd_T46 l0_0 x10_1).f4).length c18004_6)).setCell ⟨gb5,7,none⟩ (.int .i64 ((rd_T46 l0_0 x10_1).f5))).heap[gb1]? = some (.cells #[.slice (some ad18004) l0_0.length c0_0] 28 (0,0))):=⟨zpw BK1.out⟩
    have n2_:Aside0 (((((((((w15.setCell ⟨gb5,0,none⟩ (.int .i64 ((rd_T46 l0_0 x10_1).f0))).setCell ⟨gb5,1,none⟩ (.string ((rd_T46 l0_0 x10_1).f1))).setCell ⟨gb5,2,none⟩ (.string ((rd_T46 l0_0 x10_1).f2))).setCell ⟨gb5,3,none⟩ (.int .i64 ((rd_T46 l0_0 x10_1).f3.f0))).setCell ⟨gb5,4,none⟩ (.string ((rd_T46 l0_0 x10_1).f3.f1))).setCell ⟨gb5,5,none⟩ (.slice A18004_5 ((rd_T46 l0_0 x10_1).f3.f2).length c18004_5)).setCell ⟨gb5,6,none⟩ (.slice A18004_6 ((rd_T46 l0_0 x10_1).f4).length c18004_6)).setCell ⟨gb5,7,none⟩ (.int .i64 ((rd_T46 l0_0 x10_1).f5))).heap[gb2]? = some (.cells #[.slice none 0 0] 28 (0,0))):=⟨zpw BK2.out⟩
    have n3_:Aside0 (((((((((w15.setCell ⟨gb5,0,none⟩ (.int .i64 ((rd_T46 l0_0 x10_1).f0))).setCell ⟨gb5,1,none⟩ (.string ((rd_T46 l0_0 x10_1).f1))).setCell ⟨gb5,2,none⟩ (.string ((rd_T46 l0_0 x10_1).f2))).setCell ⟨gb5,3,none⟩ (.int .i64 ((rd_T46 l0_0 x10_1).f3.f0))).setCell ⟨gb5,4,none⟩ (.string ((rd_T46 l0_0 x10_1).f3.f1))).setCell ⟨gb5,5,none⟩ (.slice A18004_5 ((rd_T46 l0_0 x10_1).f3.f2).length c18004_5)).setCell ⟨gb5,6,none⟩ (.slice A18004_6 ((rd_T46 l0_0 x10_1).f4).length c18004_6)).setCell ⟨gb5,7,none⟩ (.int .i64 ((rd_T46 l0_0 x10_1).f5))).heap[gb3]? = some (.cells #[u18004000] 28 (0,0))):=⟨zpw BK3.out⟩
    have n4_:Aside0 (((((((((w15.setCell ⟨gb5,0,none⟩ (.int .i64 ((rd_T46 l0_0 x10_1).f0))).setCell ⟨gb5,1,none⟩ (.string ((rd_T46 l0_0 x10_1).f1))).setCell ⟨gb5,2,none⟩ (.string ((rd_T46 l0_0 x10_1).f2))).setCell ⟨gb5,3,none⟩ (.int .i64 ((rd_T46 l0_0 x10_1).f3.f0))).setCell ⟨gb5,4,none⟩ (.string ((rd_T46 l0_0 x10_1).f3.f1))).setCell ⟨gb5,5,none⟩ (.slice A18004_5 ((rd_T46 l0_0 x10_1).f3.f2).length c18004_5)).setCell ⟨gb5,6,none⟩ (.slice A18004_6 ((rd_T46 l0_0 x10_1).f4).length c18004_6)).setCell ⟨gb5,7,none⟩ (.int .i64 ((rd_T46 l0_0 x10_1).f5))).heap[gb5]? = some (.cells #[.int .i64 ((rd_T46 l0_0 x10_1).f0),.string ((rd_T46 l0_0 x10_1).f1),.string ((rd_T46 l0_0 x10_1).f2),.int .i64 ((rd_T46 l0_0 x10_1).f3.f0),.string ((rd_T46 l0_0 x10_1).f3.f1),.slice A18004_5 ((rd_T46 l0_0 x10_1).f3.f2).length c18004_5,.slice A18004_6 ((rd_T46 l0_0 x10_1).f4).length c18004_6,.int .i64 ((rd_T46 l0_0 x10_1).f5)] 46 (0,0))):=⟨zpu BK5.out⟩
    have n5_:Aside0 (Below w.heap.size w ((((((((w15.setCell ⟨gb5,0,none⟩ (.int .i64 ((rd_T46 l0_0 x10_1).f0))).setCell ⟨gb5,1,none⟩ (.string ((rd_T46 l0_0 x10_1).f1))).setCell ⟨gb5,2,none⟩ (.string ((rd_T46 l0_0 x10_1).f2))).setCell ⟨gb5,3,none⟩ (.int .i64 ((rd_T46 l0_0 x10_1).f3.f0))).setCell ⟨gb5,4,none⟩ (.string ((rd_T46 l0_0 x10_1).f3.f1))).setCell ⟨gb5,5,none⟩ (.slice A18004_5 ((rd_T46 l0_0 x10_1).f3.f2).length c18004_5)).setCell ⟨gb5,6,none⟩ (.slice A18004_6 ((rd_T46 l0_0 x10_1).f4).length c18004_6)).setCell ⟨gb5,7,none⟩ (.int .i64 ((rd_T46 l0_0 x10_1).f5)))):=⟨za5⟩
    (try clear HO_18004000)
    (try clear BK1)
    (try clear BK2)
    (try clear BK3)
    (try clear BK5)
    (try clear HB)
    generalize ((((((((w15.setCell ⟨gb5,0,none⟩ (.int .i64 ((rd_T46 l0_0 x10_1).f0))).setCell ⟨gb5,1,none⟩ (.string ((rd_T46 l0_0 x10_1).f1))).setCell ⟨gb5,2,none⟩ (.string ((rd_T46 l0_0 x10_1).f2))).setCell ⟨gb5,3,none⟩ (.int .i64 ((rd_T46 l0_0 x10_1).f3.f0))).setCell ⟨gb5,4,none⟩ (.string ((rd_T46 l0_0 x10_1).f3.f1))).setCell ⟨gb5,5,none⟩ (.slice A18004_5 ((rd_T46 l0_0 x10_1).f3.f2).length c18004_5)).setCell ⟨gb5,6,none⟩ (.slice A18004_6 ((rd_T46 l0_0 x10_1).f4).length c18004_6)).setCell ⟨gb5,7,none⟩ (.int .i64 ((rd_T46 l0_0 x10_1).f5)))=w20 at n0_ n1_ n2_ n3_ n4_ n5_ ⊢
    have HO_18004000:=n0_
    have BK1:=n1_
    have BK2:=n2_
    have BK3:=n3_
    have BK5:=n4_
    have HB:=n5_
    clear n0_ n1_ n2_ n3_ n4_ n5_
    replace HO_18004000:=zk (Kd.S_drew HO_18004000.out)
    replace BK1:=zk (blk_drew BK1.out)
    replace BK2:=zk (blk_drew BK2.out)
    replace BK3:=zk (blk_drew BK3.out)
    replace BK5:=zk (blk_drew BK5.out)
    replace HB:=zk (below_drew1 HB.out)
    refine start_ (n:=8) (S:=fun w'=>w'.cell? ⟨gb3,0,none⟩=some (u18004000)∧w'.cell? ⟨gb5,0,none⟩=some (.int .i64 ((rd_T46 l0_0 x10_1).f0))∧w'.cell? ⟨gb5,1,none⟩=some (.string ((rd_T46 l0_0 x10_1).f1))∧w'.cell? ⟨gb5,2,none⟩=some (.string ((rd_T46 l0_0 x10_1).f2))∧w'.cell? ⟨gb5,3,none⟩=some (.int .i64 ((rd_T46 l0_0 x10_1).f3.f0))∧w'.cell? ⟨gb5,4,none⟩=some (.string ((rd_T46 l0_0 x10_1).f3.f1))∧w'.cell? ⟨gb5,5,none⟩=some (.slice A18004_5 ((rd_T46 l0_0 x10_1).f3.f2).length c18004_5)∧w'.cell? ⟨gb5,6,none⟩=some (.slice A18004_6 ((rd_T46 l0_0 x10_1).f4).length c18004_6)∧w'.cell? ⟨gb5,7,none⟩=some (.int .i64 ((rd_T46 l0_0 x10_1).f5))) (ds:=[7]) #[false,false,false,false,false,false,false,false] (by kernel_rfl) rfl rfl ⟨(blk_cell BK3.out 0).trans rfl,(blk_cell BK5.out 0).trans rfl,(blk_cell BK5.out 1).trans rfl,(blk_cell BK5.out 2).trans rfl,(blk_cell BK5.out 3).trans rfl,(blk_cell BK5.out 4).trans rfl,(blk_cell BK5.out 5).trans rfl,(blk_cell BK5.out 6).trans rfl,(blk_cell BK5.out 7).trans rfl⟩ (fun hHeld=>?_);refine with_tabW impl_cloneProblem.tab5 impl_cloneProblem.bits5 (fun HT_ HW_=>?_)
    generalize w20.drew=w21 at HO_18004000 BK1 BK2 BK3 BK5 HB hHeld ⊢
    refine zy 0 (some 14) HT_.out ?_
    refine ztk 1 (some 15) HT_.out HW_.out hHeld ?_
    refine ztk 2 (some 16) HT_.out HW_.out hHeld ?_
    refine zon 3 (some 17) HT_.out (fun K hK=>?_)
    refine goes_ Try.func30 (by kernel_rfl) rfl #[.agg #[.int .i64 ((rd_T46 l0_0 x10_1).f0),.string ((rd_T46 l0_0 x10_1).f1),.string ((rd_T46 l0_0 x10_1).f2),.int .i64 ((rd_T46 l0_0 x10_1).f3.f0),.string ((rd_T46 l0_0 x10_1).f3.f1),.slice A18004_5 ((rd_T46 l0_0 x10_1).f3.f2).length c18004_5,.slice A18004_6 ((rd_T46 l0_0 x10_1).f4).length c18004_6,.int .i64 ((rd_T46 l0_0 x10_1).f5)]] (by rfl) rfl rfl za6 ?_
    with_reducible refine (impl_cloneConstraint.apart k1 ((rd_T46 l0_0 x10_1).f0) ((rd_T46 l0_0 x10_1).f1) ((rd_T46 l0_0 x10_1).f2) ((rd_T46 l0_0 x10_1).f3.f0) ((rd_T46 l0_0 x10_1).f3.f1) _ _ ((rd_T46 l0_0 x10_1).f3.f2) _ _ ((rd_T46 l0_0 x10_1).f4) ((rd_T46 l0_0 x10_1).f5) t6 t7 t8 t9 t10 t11 t14 t17 _ ?side1 ?side2 ?side3 ?side4 A13.out).mono ?_
    (case side1=>repeat (first|exact (Kd.C_below HR18004_5.out HB.out)|(with_reducible refine Kd.C_alloc ?_ _)|(with_reducible refine Kd.C_drewN ?_ _)|(with_reducible refine Kd.C_drew ?_)))
    (case side2=>exact HC18004_5.out)
    (case side3=>repeat (first|exact (Kd.C_below HR18004_6.out HB.out)|(with_reducible refine Kd.C_alloc ?_ _)|(with_reducible refine Kd.C_drewN ?_ _)|(with_reducible refine Kd.C_drew ?_)))
    (case side4=>exact HC18004_6.out)
    rintro e w22 ⟨v12,v15,rfl,ho0,ho1,hb⟩
    obtain ⟨N_,hO_,ho0,ho1⟩:=S_call2 (za1 HO_18004000.out) ho0 ho1 hb
    refine ⟨_,rfl,?_⟩
    replace HO_18004000:=zk hO_
    have HO13:=zk (Kd.S_lower ho0 (below_size za5))
    have HO16:=zk (Kd.R_lower ho1 (below_size za5))
    replace BK1:=yb BK1 hb
    replace BK2:=yb BK2 hb
    replace BK3:=yb BK3 hb
    replace BK5:=yb BK5 hb
    replace HB:=yB HB hb
    (try clear hb)
    (try clear hb2)
    (try clear hk)
    (try clear hi)
    (try clear ho0)
    (try clear ho1)
    obtain ⟨Ao24,co24,eo24⟩:=Kd.S_slice HO13.out
    (first|subst eo24|(injection eo24 with f1_ f2_ f3_;have f4_:=f1_.symm;have f5_:=f3_.symm;clear f1_ f2_ f3_;subst f4_;subst f5_))
    obtain ⟨Ao25,co25,eo25⟩:=Kd.R_slice HO16.out
    (first|subst eo25|(injection eo25 with f1_ f2_ f3_;have f4_:=f1_.symm;have f5_:=f3_.symm;clear f1_ f2_ f3_;subst f4_;subst f5_))
    refine hK.out _ _ ⟨(blk_cell BK3.out 0).trans rfl,(blk_cell BK5.out 0).trans rfl,(blk_cell BK5.out 1).trans rfl,(blk_cell BK5.out 2).trans rfl,(blk_cell BK5.out 3).trans rfl,(blk_cell BK5.out 4).trans rfl,(blk_cell BK5.out 5).trans rfl,(blk_cell BK5.out 6).trans rfl,(blk_cell BK5.out 7).trans rfl⟩ (fun hHeld=>?_)
    clear hK K
    refine zno (some 17) ?_
    refine zon 4 (some 18) HT_.out (fun K hK=>?_)
    refine value_ (w1:=?_) (v:=?_) (by rfl) rfl ?_ ?_
    rotate_left 2
    ·go_simp
     constructor
     ·rfl
     ·rfl
    refine hK.out _ _ ⟨(blk_cell (blk_alloc BK3.out _) 0).trans rfl,(blk_cell (blk_alloc BK5.out _) 0).trans rfl,(blk_cell (blk_alloc BK5.out _) 1).trans rfl,(blk_cell (blk_alloc BK5.out _) 2).trans rfl,(blk_cell (blk_alloc BK5.out _) 3).trans rfl,(blk_cell (blk_alloc BK5.out _) 4).trans rfl,(blk_cell (blk_alloc BK5.out _) 5).trans rfl,(blk_cell (blk_alloc BK5.out _) 6).trans rfl,(blk_cell (blk_alloc BK5.out _) 7).trans rfl⟩ (fun hHeld=>?_)
    clear hK K
    refine zno (some 18) ?_
    refine zon 5 (some 19) HT_.out (fun K hK=>?_)
    refine Kd.S_append_step kCS (w0:=w) w.heap.size (by rfl) (.tmp 15) (.tmp 18) 26 46 (.agg #[(.int .i64 0),(.string ⟨#[]⟩),(.string ⟨#[]⟩),(.int .i64 0),(.string ⟨#[]⟩),(.slice none 0 0),(.slice none 0 0),(.int .i64 0)]) 120 rfl Try.underlying26 info46 rfl (by decide) (by omega) u18004000 x18004000_1 (⟨t6,t7,t8,(⟨t9,t10,t11⟩:S43),t14,t17⟩:S46) [.int .i64 t6,.string t7,.string t8,.int .i64 t9,.string t10,.slice Ao24 t11.length co24,.slice Ao25 t14.length co25,.int .i64 t17] (fun k_=>k_ ≠ gb5) (fun k_=>(fun k_=>((fun k_=>k_ ≠ gb5)) k_∧some k_ ≠ (u18004000:Value).ownBlock) k_∧N_≤k_) rfl rfl ?aP (fun _ hk=>hk.1) ?aF ?aO ?aB ?aS ?aL ?_
    (case aP=>exact kCS_mkM _ _ _ (⟨t6,t7,t8,(⟨t9,t10,t11⟩:S43),t14,t17⟩:S46) (Kd.S_mono (Kd.S_types (Kd.S_apart' (HO13.out) (Kd.S_typed HO_18004000.out) (by decide)) BK5.out (by decide)) (fun k_ hk=>⟨⟨hk.2,hk.1.2⟩,hk.1.1.2⟩)) (Kd.R_mono (Kd.R_types (Kd.R_apart' (HO16.out) (Kd.S_typed HO_18004000.out) (by decide)) BK5.out (by decide)) (fun k_ hk=>⟨⟨hk.2,hk.1.2⟩,hk.1.1.2⟩)))
    (case aB=>exact za5)
    (case aF=>exact (fun k_ hk=>zF BK5.out k_ hk))
    (case aO=>exact (by (with_reducible repeat (first|apply Kd.S_alloc|apply Kd.S_drewN|apply Kd.S_drew));exact Kd.S_mono HO_18004000.out (fun _ hk=>⟨hk.1.1,fun h_=>Nat.not_le.2 hk.1.2.2 h_.2⟩)))
    (case aS=>exact (below_size za5))
    (case aL=>have:=LMc14.out;omega)
    intro v19 w23 ho hb hg hat
    rw [← Ny18.out] at ho
    replace BK1:=zk (blk_grown (g:=gb1) (o:=.cells #[.slice (some ad18004) l0_0.length c0_0] 28 (0,0)) (za0 BK1.out) hg (Kd.S_ne HO_18004000.out BK1.out (by decide)))
    replace BK2:=zk (blk_grown (g:=gb2) (o:=.cells #[.slice none 0 0] 28 (0,0)) (za0 BK2.out) hg (Kd.S_ne HO_18004000.out BK2.out (by decide)))
    replace BK3:=zk (blk_grown (g:=gb3) (o:=.cells #[u18004000] 28 (0,0)) (za0 BK3.out) hg (Kd.S_ne HO_18004000.out BK3.out (by decide)))
    replace BK5:=zk (blk_grown (g:=gb5) (o:=.cells #[.int .i64 ((rd_T46 l0_0 x10_1).f0),.string ((rd_T46 l0_0 x10_1).f1),.string ((rd_T46 l0_0 x10_1).f2),.int .i64 ((rd_T46 l0_0 x10_1).f3.f0),.string ((rd_T46 l0_0 x10_1).f3.f1),.slice A18004_5 ((rd_T46 l0_0 x10_1).f3.f2).length c18004_5,.slice A18004_6 ((rd_T46 l0_0 x10_1).f4).length c18004_6,.int .i64 ((rd_T46 l0_0 x10_1).f5)] 46 (0,0)) (za0 BK5.out) hg (Kd.S_away HO_18004000.out (fun _ hk=>hk.1.1)))
    replace HB:=zk hb
    have HO20:=zk ho
    clear HO_18004000
    clear HO13
    clear HO16
    clear ho hb hg hat
    obtain ⟨Ao26,co26,eo26⟩:=Kd.S_slice HO20.out
    (first|subst eo26|(injection eo26 with f1_ f2_ f3_;have f4_:=f1_.symm;have f5_:=f3_.symm;clear f1_ f2_ f3_;subst f4_;subst f5_))
    refine hK.out _ _ ⟨(blk_cell BK3.out 0).trans rfl,(blk_cell BK5.out 0).trans rfl,(blk_cell BK5.out 1).trans rfl,(blk_cell BK5.out 2).trans rfl,(blk_cell BK5.out 3).trans rfl,(blk_cell BK5.out 4).trans rfl,(blk_cell BK5.out 5).trans rfl,(blk_cell BK5.out 6).trans rfl,(blk_cell BK5.out 7).trans rfl⟩ (fun hHeld=>?_)
    clear hK K
    refine zno (some 19) ?_
    refine zy 6 (some 20) HT_.out ?_
    refine last_ (i:=7) (N:=none) #[true,true,true,true,true,true,true,true] rfl rfl (one_of HT_.out (by kernel_rfl)) (by decide) (fun K hK=>?_)
    have hs27:w23.cell? ⟨gb3,0,none⟩=some (u18004000):=(blk_cell BK3.out 0).trans rfl
    have hfs27:=blk_frozen BK3.out 0
    have hns27_0:=NB1_3.out
    have hns27_1:=NB2_3.out
    have hns27_3:=NB5_3.out
    have hms27_0:=NB3_1.out
    have hms27_1:=NB3_2.out
    have hms27_3:=NB3_5.out
    refine skip_ (w1:=?_) (by rfl) rfl ?_ ?_
    rotate_left
    ·go_simp
     rfl
    refine hK.out _ _ ?_
    clear hK K
    refine done_ (done_of HT_.out (by kernel_rfl)) ?_
    try go_wp2
    go_roundg k1
    case measure=>have:=HK1.out;omega
    case rel=>exact ⟨(wrap64 (x10_1+1)),(y18018),(.slice Ao26 y18018.length co26),za9,H',⟨za11⟩,⟨by (with_reducible repeat (first|apply Kd.S_alloc|apply Kd.S_drewN|apply Kd.S_drew));exact Kd.S_mono (zfS (Kd.S_types HO20.out BK3.out (by decide))) (fun _ hk=>trivial)⟩,⟨zpw BK1.out⟩,⟨zpw BK2.out⟩,⟨zpu BK3.out⟩,⟨za5⟩⟩
   ·rw [if_neg c14] at H
    exact absurd H (by simp)
   ·rw [if_neg c12] at H
    exact absurd H (by simp)
   ·rw [if_neg c11] at H
    exact absurd H (by simp)
   ·rw [if_neg c10] at H
    have c10b0:=zdnl c10
    clear c10
    obtain rfl:=zi H
    have hnb28:=NB3_1.out
    have hnc28:=NB1_3.out
    have hnb29:=NB3_2.out
    have hnc29:=NB2_3.out
    obtain ⟨hcz30_0,hfz30_0⟩:=blk1 BK3.out
    obtain ⟨Ao31,co31,eo31⟩:=Kd.S_slice HO_18004000.out
    subst eo31
    have hnb32:=NB2_1.out
    have hnc32:=NB1_2.out
    obtain ⟨hcz33_0,hfz33_0⟩:=blk1 BK2.out
    go_wp2
    refine bodyPost_ret (results_cell_row rfl _ _ gb2 28 #[.slice Ao31 x18004000_1.length co31] (0,0) _ rfl (zpu BK2.out) Try.underlying28 rfl (by kernel_rfl)) rfl ?_
    exact ⟨_,za8,by (with_reducible repeat (first|apply Kd.S_alloc|apply Kd.S_drewN|apply Kd.S_drew));exact Kd.S_mono (zfS (Kd.S_types HO_18004000.out BK2.out (by decide))) (fun _ hk=>trivial),za5⟩
end Go.Proofs.Yteolnmoomeenbaa.A
namespace Go.Proofs.Yteolnmoomeenbaa.Ext
open Go Go.Proofs Go.Shelf Go.RowKit Go.Lib YteolnmoomeenbaaW.PrintWords YteolnmoomeenbaaW.PrintLast Yteolnmoomeenbaa.A
def zC:List Value:=[.int .i64 0,.string ⟨#[]⟩,.string ⟨#[]⟩,.int .i64 0,.string ⟨#[]⟩,.slice none 0 0,.slice none 0 0,.int .i64 0]
theorem run_clear_one {P:Program} (w:World) (t e ty:TypeId) (z:Value) (ht:P.underlying t=some (.slice e)) (hv:∀ w,(zeroValue e).run P w = .ok z w) (b o c:Nat)
  (h1:∀ u ∈ z.cells.toList,u.oneCell'=true) (hc:∀ j,j < z.cells.size→(w.cell? ⟨b,o+j,none⟩).isSome=true) (hf:∀ j,j < z.cells.size→w.frozen? ⟨b,o+j,none⟩=false) :
  (Builtin.clear_ #[t] ty #[.slice (some ⟨b,o,none⟩) 1 c]).run P w = .ok (.tuple #[]) (w.setCells b o z.cells.toList):=by
 have hzc:(Builtin.zeroCells z.cells 1).toList=z.cells.toList:=by
  unfold Builtin.zeroCells
  apply List.ext_getElem
  ·simp
  ·intro q h1 h2
   have:q < z.cells.size:=by simpa using h2
   simp [Nat.mod_eq_of_lt this]
   exact getElem!_pos z.cells q this
 have hst:=run_storeCells_cells (P:=P) b o z.cells.toList 0 w (by simpa using hc) (by simpa using hf) h1
 simp only [Nat.add_zero] at hst
 simp [Builtin.clear_,run_underlying ht,hv,hzc,hst]
set_option maxHeartbeats 4000000 in
set_option maxRecDepth 1000000 in
theorem delete_run (g n c i j:Nat) (cur:Array Value) (W:World) (hg:W.heap[g]? = some (.cells cur 46 (0,0))) (hcur:cur.size=c * 8) (h1:∀ u ∈ cur.toList.take (n * 8),u.oneCell'=true) (hnc:n≤c) (hm:c≤9223372036854775807) (hi:i < n) (hj:j=i+1) :
  Calls Try.prog 19 #[.slice (some ⟨g,0,none⟩) n c,.int .i64 i,.int .i64 j] W fun e W'=>e = .returned (.slice (some ⟨g,0,none⟩) (n - 1) c)∧W'=(W.drew.setCells g (i * 8) ((cur.toList.drop (j * 8)).take ((n - j) * 8))).setCells g ((n - 1) * 8) zC:=by
 have mixed:Try.prog.follows Departure.mixedOrders=true:=by rfl
 obtain ⟨news,hnews⟩:∃ news,news=(cur.toList.drop (j * 8)).take ((n - j) * 8):=⟨_,rfl⟩
 rw [← hnews]
 have hlen:news.length=(n - j) * 8:=by rw [hnews,List.length_take,List.length_drop,Array.length_toList,hcur];omega
 have hcell:∀ t,W.drew.cell? ⟨g,t,none⟩=cur[t]?:=fun t=>blk_cell hg t
 have hfz:∀ t,W.drew.frozen? ⟨g,t,none⟩=false:=fun t=>blk_frozen hg t
 have hget:∀ t u,news[t]? = some u→cur[j * 8+t]? = some u:=by
  intro t u hu
  rw [hnews] at hu
  have ht:t < (n - j) * 8:=by
   have:=(List.getElem?_eq_some_iff.1 hu).1
   rw [List.length_take] at this
   omega
  rw [List.getElem?_take_of_lt ht,List.getElem?_drop,Array.getElem?_toList] at hu
  exact hu
 obtain ⟨A,hA,hsrc⟩:∃ A:Addr,(if c=j then (some (⟨g,0,none⟩:Addr)) else some ⟨g,j * 8,none⟩)=some A∧Aside0 (∀ t u,news[t]? = some u→W.drew.cell? (A.add t)=some u):=by
  by_cases h:c=j
  ·refine ⟨⟨g,0,none⟩,by simp [h],⟨fun t u hu=>?_⟩⟩
   have h0:news.length=0:=by rw [hlen];omega
   rw [List.length_eq_zero_iff.1 h0] at hu
   simp at hu
  ·refine ⟨⟨g,j * 8,none⟩,by simp [h],⟨fun t u hu=>?_⟩⟩
   rw [Addr.add_lit]
   rw [hcell]
   exact hget t u hu
 have s2:Aside0 (∀ u ∈ news,u.oneCell'=true):=⟨by
  intro u hu
  obtain ⟨t,ht,e⟩:=List.getElem_of_mem hu
  have h2:=hget t u (by rw [List.getElem?_eq_getElem ht,e])
  rw [hlen] at ht
  refine h1 u ?_
  rw [List.mem_take_iff_getElem]
  obtain ⟨q,hq⟩:=Array.getElem?_eq_some_iff.1 h2
  exact ⟨j * 8+t,by rw [Array.length_toList];omega,by rw [Array.getElem_toList];exact hq⟩⟩
 have s3:Aside0 (∀ t,t < news.length→(W.drew.cell? ⟨g,0+i * 8+t,none⟩).isSome=true∧W.drew.frozen? ⟨g,0+i * 8+t,none⟩=false):=⟨by
  intro t ht
  rw [hlen] at ht
  refine ⟨?_,hfz _⟩
  rw [hcell,Array.getElem?_eq_getElem (by omega)]
  rfl⟩
 have s1:=zk hlen
 obtain ⟨W1,hW1⟩:∃ W1,W1=W.drew.setCells g (0+i * 8) news:=⟨_,rfl⟩
 obtain ⟨i0,hi0,hz0⟩:=Option.map_eq_some_iff.1 (info46)
 have hsz:i0.size=8:=by injection hz0 with _ q;injection q
 obtain ⟨cur1,k1,k2,k3⟩:=setCells_row news (0+i * 8) W.drew cur hg (by rw [hlen,hcur];omega)
 rw [← hW1] at k1
 have hcl:∀ ty,(Builtin.clear_ #[26] ty #[.slice (some ⟨g,(i+(n - j)) * 8,none⟩) (n - (i+(n - j))) (c - (i+(n - j)))]).run Try.prog W1 = .ok (.tuple #[]) (W1.setCells g ((n - 1) * 8) zC):=fun ty=>by
  rw [show n - (i+(n - j))=1 by omega,show i+(n - j)=n - 1 by omega]
  exact run_clear_one W1 _ _ ty _ Try.underlying26 Try.zeroValue46 g _ _ (by decide) (fun j hj=>by
   rw [blk_cell k1,Array.getElem?_eq_getElem (by rw [k2,hcur];have:j < 8:=hj;omega)]
   rfl) (fun j _=>blk_frozen k1 _)
 have X:=zk hW1
 have hic:i≤c:=by omega
 have hjc:j≤c:=by omega
 have hin:i≤n:=by omega
 have hjn:j≤n:=by omega
 have hlt:i < j:=by omega
 have HJ:=zk hj
 have t22:=Try.underlying26
 clear hW1 hget hcell hfz hlen hnews k1 k2 k3 h1 hg hcur hz0 hj
 go_enter Try.func19,Try.ntmps19
 go_wp2_with fail
 go_region_law_o (refine step_append_room rfl (.tmp 22) (.tmp 25) 26 rfl 46 i0 8 t22 hi0 hsz g 0 i c (by simp [Act.eval,Act.put]) A (n - j) (c - j) news (by simp [Act.eval,Act.put]) s1.out hsrc.out s2.out (by omega) s3.out ?_;rw [← X.out])
 go_wp2
 go_ret
 exact ⟨by rw [show n - 1=i+(n - j) by have:=HJ.out;omega];rfl,by rw [X.out,Nat.zero_add]⟩
theorem M_one {α:Type} {d:Kd α} {R:α→List Value→Prop} (hR:∀ x c,R x c→∀ u ∈ c,u.oneCell'=true) {sz:Nat} (hs:0 < sz) {xs:List α} {cs:List Value} (h:Reps R sz xs cs):∀ u ∈ cs,u.oneCell'=true:=by
 intro u hu
 obtain ⟨t,ht,e⟩:=List.getElem_of_mem hu
 have hq:t / sz < xs.length:=by rw [h.1] at ht;exact Nat.div_lt_of_lt_mul (by rw [Nat.mul_comm];exact ht)
 have h2:=hR _ _ (h.2 (t / sz) _ (List.getElem?_eq_getElem hq)) u
 refine h2 ?_
 rw [List.mem_take_iff_getElem]
 have h3:=Nat.mod_add_div t sz
 have h4:=Nat.mod_lt t hs
 have h5:t / sz * sz+t % sz=t:=by rw [Nat.mul_comm];omega
 refine ⟨t % sz,by rw [List.length_drop];omega,?_⟩
 rw [List.getElem_drop]
 simp only [h5,e]
theorem cut_mem (cs:List Value) (i j n sz t:Nat) (hj:j=i+1) (hl:cs.length=n * sz) (hi:i < n) (ht:t+1 < n) :
  ((cs.take (i * sz) ++ cs.drop (j * sz)).drop (t * sz)).take sz=(cs.drop ((if t < i then t else t+1) * sz)).take sz:=by
 have h1:(cs.take (i * sz)).length=i * sz:=by rw [List.length_take,hl];exact Nat.min_eq_left (Nat.mul_le_mul_right _ (by omega))
 by_cases h:t < i
 ·rw [if_pos h]
  have h2:(t+1) * sz≤i * sz:=Nat.mul_le_mul_right _ (by omega)
  rw [Nat.add_mul,Nat.one_mul] at h2
  rw [List.drop_append_of_le_length (by omega),List.take_append_of_le_length (by rw [List.length_drop];omega),List.drop_take,List.take_take,Nat.min_eq_left (by omega)]
 ·rw [if_neg h]
  have h2:i * sz≤t * sz:=Nat.mul_le_mul_right _ (by omega)
  rw [List.drop_append,h1,List.drop_of_length_le (by rw [h1];exact h2),List.nil_append,List.drop_drop]
  congr 2
  rw [hj,Nat.add_mul,Nat.add_mul]
  omega
set_option maxHeartbeats 1000000 in
theorem delete_apart (g n c i j base:Nat) (ok:Nat→Prop) (xs:List S46) (W:World) (h:Kd.S kCS 46 W base ok (.slice (some ⟨g,0,none⟩) n c) xs) (hn:xs.length=n) (hi:i < n) (hj:j=i+1) :
  Calls Try.prog 19 #[.slice (some ⟨g,0,none⟩) n c,.int .i64 i,.int .i64 j] W fun e W'=>e = .returned (.slice (some ⟨g,0,none⟩) (n - 1) c)∧Kd.S kCS 46 W' base ok (.slice (some ⟨g,0,none⟩) (n - 1) c) (xs.eraseIdx i)∧(∀ k,k ≠ g→W'.heap[k]? = W.heap[k]?)∧∃ vs o vs' o',W'=(W.drew.setCells g o vs).setCells g o' vs':=by
 obtain ⟨f,h0,inner,⟨hl,ho⟩,hr⟩:=h
 rw [List.length_zipIdx,hn] at hl ho
 rcases ho with ⟨q,_⟩|⟨g',cap,cur,q,hb,hg,hnc,hm,hcs,ht⟩
 ·cases q
 injection q with q1 _ q3
 injection q1 with q1
 injection q1 with q1
 subst q1 q3
 have hone:∀ u ∈ inner,u.oneCell'=true:=M_one (d:=Kd.tag f kCS) (fun x c hM=>(Kd.tag f kCS).K_one ((Kd.tag f kCS).K_of_M hM)) (show 0 < 8 by decide) hr
 have hcs8:cur.size=c * 8:=hcs
 have ht8:cur.toList.take (n * 8)=inner:=ht
 have hl8:inner.length=n * 8:=hl
 refine (delete_run g n c i j cur W hg hcs8 (by rw [ht8];exact hone) hnc (by unfold maxLen at hm;omega) hi hj).mono ?_
 rintro e W' ⟨rfl,hW'⟩
 have hnews:(cur.toList.drop (j * 8)).take ((n - j) * 8)=inner.drop (j * 8):=by
  rw [← ht8,List.drop_take]
  congr 1
  omega
 have htk:cur.toList.take (i * 8)=inner.take (i * 8):=by
  rw [← ht8,List.take_take,Nat.min_eq_left (by omega)]
 rw [hnews] at hW'
 have hnl:(inner.drop (j * 8)).length=(n - j) * 8:=by rw [List.length_drop,hl8];omega
 obtain ⟨c1,k1,k2,k3⟩:=setCells_row (inner.drop (j * 8)) (i * 8) W.drew cur hg (by rw [hnl,hcs8];omega)
 obtain ⟨c2,m1,m2,m3⟩:=setCells_row zC ((n - 1) * 8) _ c1 k1 (by rw [k2,hcs8];show (n - 1) * 8+8≤c * 8;omega)
 rw [← hW'] at m1
 have hfar:∀ k,k ≠ g→W'.heap[k]? = W.heap[k]?:=by
  intro k hk
  rw [hW',setCells_far _ _ k hk,setCells_far _ _ k hk]
  rfl
 refine ⟨rfl,⟨fun k=>if i < f k then f k - 1 else f k,h0,inner.take (i * 8) ++ inner.drop (j * 8),⟨?_,.inr ⟨g,c,c2,by rw [List.length_zipIdx,List.length_eraseIdx_of_lt (by omega),hn],hb,m1,?_,hm,by rw [m2,k2];exact hcs,?_⟩⟩,?_,?_⟩,hfar,_,_,_,_,hW'⟩
 ·rw [List.length_zipIdx,List.length_eraseIdx_of_lt (by omega),hn,List.length_append,List.length_take,hnl,hl8]
  show min (i * 8) (n * 8)+(n - j) * 8=(n - 1) * 8
  omega
 ·rw [List.length_zipIdx,List.length_eraseIdx_of_lt (by omega),hn];omega
 ·rw [List.length_zipIdx,List.length_eraseIdx_of_lt (by omega),hn,m3]
  show List.take ((n - 1) * 8) _=_
  have z1:(inner.take (i * 8)).length=i * 8:=by rw [List.length_take,hl8];omega
  rw [List.append_assoc,List.take_append_of_le_length (by rw [List.length_take,Array.length_toList,k2,hcs8];omega),List.take_take,Nat.min_self,k3,htk,List.take_append_of_le_length (by rw [List.length_append,z1,hnl];omega)]
  exact List.take_of_length_le (by rw [List.length_append,z1,hnl];omega)
 ·rw [List.length_zipIdx,List.length_eraseIdx_of_lt (by omega),hn,List.length_append,List.length_take,hnl,hl8]
  show min (i * 8) (n * 8)+(n - j) * 8=(n - 1) * 8
  omega
 ·rintro t ⟨x,t'⟩ hx
  have hx2:=hx
  rw [List.getElem?_zipIdx] at hx2
  obtain ⟨y,hy,hy2⟩:=Option.map_eq_some_iff.1 hx2
  injection hy2 with e1 e2
  subst e1
  have e3:t'=t:=by omega
  subst e3
  have htl:t'+1 < n:=by
   have:=(List.getElem?_eq_some_iff.1 hy).1
   rw [List.length_eraseIdx_of_lt (by omega),hn] at this
   omega
  have hz:xs[if t' < i then t' else t'+1]? = some y:=by
   rw [List.getElem?_eraseIdx] at hy
   split at hy
   ·rw [if_pos (by assumption)];exact hy
   ·rw [if_neg (by assumption)];exact hy
  have hM:=hr.2 (if t' < i then t' else t'+1) (y,if t' < i then t' else t'+1) (by rw [List.getElem?_zipIdx,hz];simp)
  show kCS.M W' base _ y (((inner.take (i * 8) ++ inner.drop (j * 8)).drop (t' * 8)).take 8)
  rw [cut_mem inner i j n 8 t' hj hl8 hi htl]
  refine kCS.M_mono ?_ (kCS.M_move ?_ hM)
  ·rintro k ⟨hk,hf⟩
   refine ⟨hk,?_⟩
   show (if i < f k then f k - 1 else f k)=t'
   by_cases hc:t' < i
   ·rw [if_pos hc] at hf
    rw [if_neg (by omega),hf]
   ·rw [if_neg hc] at hf
    rw [if_pos (by omega),hf]
    omega
  ·rintro k ⟨⟨_,hk⟩,_⟩
   exact hfar k (fun e=>hk (by rw [e];rfl))
def delete_f (l:List S46) (a1 a2:Int):Option (List S46):=if 0≤a1∧a1 < (l.length:Int)∧a2=a1+1 then some (l.eraseIdx a1.toNat) else none
theorem below_grown2 {B:Nat} {w W W':World} {row:Option Nat} (h:Below B w W) (hB:B≤w.heap.size) (hg:W.grownBy W' row) (hr:∀ k,row=some k→B≤k):Below B w W' :=
 ⟨hg.os.trans h.os,hg.tape.trans h.tape,hg.output.trans h.output,Nat.le_trans h.size hg.size,fun k hk=>(hg.block k (by have:=h.size;omega) (fun e=>absurd (hr k e.symm) (by omega))).trans (h.block k hk)⟩
theorem delete_calls (A:Option Addr) (c:Nat) (l:List S46) (a1 a2:Int) (r:List S46) (base:Nat) (ok:Nat→Prop) (W:World) (h:Kd.S kCS 46 W base ok (.slice A l.length c) l) (hf:delete_f l a1 a2=some r) :
  Calls Try.prog 19 #[.slice A l.length c,.int .i64 a1,.int .i64 a2] W fun e W'=>∃ v,e = .returned v∧Kd.S kCS 46 W' base ok v r∧W.grownBy W' (Value.slice A l.length c).ownBlock:=by
 unfold delete_f at hf
 split at hf
 ·next hc =>
  obtain ⟨h0,h1,rfl⟩:=hc
  obtain rfl:=zi hf
  obtain ⟨i,rfl⟩:=Int.eq_ofNat_of_zero_le h0
  obtain ⟨g,cap,e,_,_,_⟩:=Kd.S_form h (by omega)
  injection e with e1 _ e3
  subst e1 e3
  refine (delete_apart g l.length c i (i+1) base ok l W h rfl (by omega) rfl).mono ?_
  rintro e W' ⟨rfl,hS,hfar,vs,o,vs',o',hW⟩
  refine ⟨_,rfl,hS,?_⟩
  obtain ⟨a1,a2,a3,a4⟩:=setCells_same g vs o W.drew
  obtain ⟨b1,b2,b3,b4⟩:=setCells_same g vs' o' (W.drew.setCells g o vs)
  rw [← hW] at b1 b2 b3 b4
  exact ⟨b1.trans a1,b2.trans a2,b3.trans a3,by rw [b4,a4];exact Nat.le_refl _,fun k _ hk=>hfar k (fun e=>hk (by rw [e];rfl))⟩
 ·exact absurd hf (by simp)
end Go.Proofs.Yteolnmoomeenbaa.Ext
namespace Go.Proofs.Yteolnmoomeenbaa.A
open Go.RowKit Yteolnmoomeenbaa.Ext YteolnmoomeenbaaW.PrintWords YteolnmoomeenbaaW.PrintLast YteolnmoomeenbaaW.PrintMore
attribute [local go_sem] max2_int min2_int max_two min_two max_three min_three max_four min_four
open Yteolnmoomeenbaa.Ext
-- EXT loop.example/g00582/impl.WithoutConstraint rounds making
def impl_WithoutConstraint.j0:Nat→Int→Bool→List (S46)→Option ((List (S46)) × Bool)
 | 0,_,_,_=>none
 | k+1,x1,x18,x7002000=>if x18=true then (some (([]:List (S46)),false)) else ((impl_cloneProblem.f k x7002000).bind fun t7005=>((delete_f t7005 x1 (wrap64 (x1+1))).bind fun t7009=>(some (t7009,true))))
def impl_WithoutConstraint.f (k:Nat) (l0_0:List (S46)) (a1:Int):Option ((List (S46)) × Bool):=(impl_IsValidProblem.f k l0_0).bind fun t7003=>(if t7003=true then ((impl_within.f a1 0 (wrap64 ((l0_0.length:Int) - 1))).bind fun t7004=>(impl_WithoutConstraint.j0 k a1 (!t7004) l0_0)) else (impl_WithoutConstraint.j0 k a1 true l0_0))
theorem impl_WithoutConstraint.apart (k:Nat) (A0_0:Option Addr) (c0_0:Nat) (l0_0:List (S46)) (a1:Int) (r1:List (S46)) (r2:Bool) (w:World) (hr0_0:Kd.C k46 w A0_0 l0_0.length l0_0) (hc0_0:l0_0.length≤c0_0) (h:impl_WithoutConstraint.f k l0_0 a1=some (r1,r2)) :
   Calls Try.prog 7 #[.agg #[.slice A0_0 l0_0.length c0_0],.int .i64 a1] w fun e w'=>∃ v0_:Value,e = .returned (.tuple #[.agg #[v0_],.bool r2])∧Kd.S kCS 46 w' w.heap.size (fun _=>True) v0_ r1∧Below w.heap.size w w':=by
 have hu28:=Try.underlying28
 have HR0_0:=zk hr0_0
 have HC0_0:=zk hc0_0
 clear hr0_0 hc0_0
 have HB:=zk (Below.refl w.heap.size w)
 have H:=h
 unfold impl_WithoutConstraint.f at H
 clear h
 have HC3:=zk H
 clear H
 go_enter Try.func7,Try.ntmps7
 go_upto_region 1 with (first|((with_reducible refine gate_dst (N:=2) rfl ?_);(try (refine gate_guard (by rfl) ?_;dsimp only));refine zE (cs:=#[.slice A0_0 l0_0.length c0_0]) (t:=28) ?_;intro gb1 hg w4 hbox hb;have BK1:=zk hbox;have GW1:=zk (zs (w:=w) hg za5);have GE1:=GW1;replace HB:=yB HB hb;clear hb hbox hg)|((with_reducible refine gate_dst (N:=4) rfl ?_);(try (refine gate_guard (by rfl) ?_;dsimp only));refine zE (cs:=#[.slice none 0 0]) (t:=28) ?_;intro gb2 hg w5 hbox hb;have BK2:=zk hbox;have GW2:=zk (zs (w:=w) hg za5);have GE2:=GW2;have NB1_2:=yn hg BK1;have NB2_1:=yp hg BK1;replace BK1:=yb BK1 hb;replace HB:=yB HB hb;clear hb hbox hg))
 (try simp only [Act.put,zt,zu,zv])
 go_cut [18] (fun v18 wc=>∃ (kq:Nat) (x18_2:Bool),v18 = .bool x18_2∧Aside0 (impl_WithoutConstraint.j0 kq a1 x18_2 l0_0=some (r1,r2))∧Aside0 (kq≤k)∧Aside0 (wc.heap[gb1]? = some (.cells #[(.slice A0_0 l0_0.length c0_0)] 28 (0,0)))∧Aside0 (wc.heap[gb2]? = some (.cells #[(.slice none 0 0)] 28 (0,0)))∧Aside0 (Below w.heap.size w wc))
 case first =>
  have H:=HC3.out
  clear HC3
  obtain ⟨t3,A6,H⟩:=zO H
  try dsimp only at H
  by_cases c7:t3=true
  subst c7
  rw [if_pos rfl] at H
  try dsimp only at H
  obtain ⟨t4,A8,H⟩:=zO H
  try dsimp only at H
  have fin0_:=zk trivial
  rotate_left
  replace c7:=Bool.eq_false_iff.mpr c7
  subst c7
  rw [if_neg zff] at H
  try dsimp only at H
  have fin1_:=zk trivial
  rotate_left
  all_goals
   have H':=zk H
   clear H
   have hnb9:=NB1_2.out
   have hnc9:=NB2_1.out
   obtain ⟨hcz10_0,hfz10_0⟩:=blk1 BK1.out
   go_wp2_with (first|((with_reducible refine gate_callee (f:=16) rfl ?_);refine zg (some 8) Try.func16 #[.agg #[.slice A0_0 l0_0.length c0_0]] rfl za6 ?_;(with_reducible refine (impl_IsValidProblem.calls k _ _ l0_0 _ _ ?side1 ?side2 A6.out).mono ?_);(case side1=>repeat (first|exact (Kd.C_below HR0_0.out HB.out)|(with_reducible refine Kd.C_alloc ?_ _)|(with_reducible refine Kd.C_drewN ?_ _)|(with_reducible refine Kd.C_drew ?_)));(case side2=>exact HC0_0.out);rintro e w11 ⟨rfl,hb⟩;refine ⟨_,rfl,?_⟩;replace BK1:=yb BK1 hb;replace BK2:=yb BK2 hb;replace HB:=yB HB hb;(try clear hb);obtain ⟨hcz12_0,hfz12_0⟩:=blk1 BK1.out)|(go_at_call 17;(with_reducible refine (impl_within.calls a1 0 (wrap64 ((l0_0.length:Int) - 1)) t4 _ A8.out).mono ?_);rintro e w' ⟨rfl,⟨nd,rfl⟩⟩))
   first
   | (
     clear fin0_
     go_meet
     case rel=>exact ⟨_,(!t4),za9,H',⟨za13⟩,⟨za0 BK1.out⟩,⟨za0 BK2.out⟩,⟨za5⟩⟩)
   | (
     clear fin1_
     go_meet
     case rel=>exact ⟨_,(true),za9,H',⟨za13⟩,⟨za0 BK1.out⟩,⟨za0 BK2.out⟩,⟨za5⟩⟩)
 case rest =>
  clear HC3
  obtain ⟨kq,x18_2,rfl,HA,HJ2,BK1,BK2,HB⟩:=hcut
  cases kq with
  | zero=>exact absurd HA.out (by simp [impl_WithoutConstraint.j0])
  | succ kj2 =>
   have H:=HA.out
   clear HA
   simp only [impl_WithoutConstraint.j0] at H
   by_cases c16:x18_2=true
   ·subst c16
    rw [if_pos rfl] at H
    try dsimp only at H
    simp only [Option.some.injEq,Prod.mk.injEq] at H
    obtain ⟨rfl,rfl⟩:=H
    have hnb17:=NB2_1.out
    have hnc17:=NB1_2.out
    obtain ⟨hcz18_0,hfz18_0⟩:=blk1 BK2.out
    go_wp2
    refine bodyPost_ret (results_ct rfl _ _ gb2 28 #[.slice none 0 0] (0,0) _ rfl (zpu BK2.out) Try.underlying28 rfl (by kernel_rfl)) rfl ?_
    exact ⟨_,za8,za12,za5⟩
   ·replace c16:=Bool.eq_false_iff.mpr c16
    subst c16
    rw [if_neg zff] at H
    try dsimp only at H
    obtain ⟨t5,A19,H⟩:=zO H
    try dsimp only at H
    obtain ⟨t9,A20,H⟩:=zO H
    try dsimp only at H
    simp only [Option.some.injEq,Prod.mk.injEq] at H
    obtain ⟨rfl,rfl⟩:=H
    have hnb21:=NB1_2.out
    have hnc21:=NB2_1.out
    obtain ⟨hcz22_0,hfz22_0⟩:=blk1 BK1.out
    go_wp2_with (first|((with_reducible refine gate_callee (f:=18) rfl ?_);refine zg (some 21) Try.func18 #[.agg #[.slice A0_0 l0_0.length c0_0]] rfl za6 ?_;(with_reducible refine (impl_cloneProblem.apart kj2 _ _ l0_0 t5 _ ?side1 ?side2 A19.out).mono ?_);(case side1=>repeat (first|exact (Kd.C_below HR0_0.out HB.out)|(with_reducible refine Kd.C_alloc ?_ _)|(with_reducible refine Kd.C_drewN ?_ _)|(with_reducible refine Kd.C_drew ?_)));(case side2=>exact HC0_0.out);rintro e w23 ⟨v6,rfl,ho0,hb⟩;refine ⟨_,rfl,?_⟩;have HO7:=zk (Kd.S_lower ho0 (below_size za5));replace BK1:=yb BK1 hb;replace BK2:=yb BK2 hb;replace HB:=yB HB hb;(try clear hb ho0))|((with_reducible refine gate_dst (N:=6) rfl ?_);(try (refine gate_guard (by rfl) ?_;dsimp only));refine zE (cs:=#[.slice none 0 0]) (t:=28) ?_;intro gb8 hg w24 hbox hb;replace HO7:=zk (Kd.S_below (za1 HO7.out) hb);have BK8:=zk hbox;have GW8:=zk (zs (w:=w) hg za5);have GE8:=GW8;have NB1_8:=yn hg BK1;have NB8_1:=yp hg BK1;have NB2_8:=yn hg BK2;have NB8_2:=yp hg BK2;replace BK1:=yb BK1 hb;replace BK2:=yb BK2 hb;replace HB:=yB HB hb;clear hb hbox hg;obtain ⟨Ao25,co25,eo25⟩:=Kd.S_slice HO7.out;subst eo25;have hnb26:=NB8_1.out;have hnc26:=NB1_8.out;have hnb27:=NB8_2.out;have hnc27:=NB2_8.out;obtain ⟨hcz28_0,hfz28_0⟩:=blk1 BK8.out)|((with_reducible refine gate_callee (f:=19) rfl ?_);refine zg (some 27) Try.func19 #[.slice Ao25 t5.length co25,.int .i64 a1,.int .i64 (wrap64 (a1+1))] rfl za6 ?_;(with_reducible refine (delete_calls Ao25 co25 t5 a1 (wrap64 (a1+1)) t9 _ _ _ (by (with_reducible repeat (first|apply Kd.S_alloc|apply Kd.S_drewN|apply Kd.S_drew));exact (Kd.S_mono (zfS (Kd.S_types HO7.out BK8.out (by decide))) (fun _ h_=>h_.1))) A20.out).mono ?_);rintro e w29 ⟨v10,rfl,ho0,hgr⟩;refine ⟨_,rfl,?_⟩;have HO11:=zk ho0;have nB_:=zk (below_grown2 za5 (Nat.le_refl _) hgr (Kd.S_base HO7.out));have nk0_:=zk (blk_grown (g:=gb1) (o:=.cells #[.slice A0_0 l0_0.length c0_0] 28 (0,0)) (zpw BK1.out) hgr (Kd.S_ne HO7.out BK1.out (by decide)));have nk1_:=zk (blk_grown (g:=gb2) (o:=.cells #[.slice none 0 0] 28 (0,0)) (zpw BK2.out) hgr (Kd.S_ne HO7.out BK2.out (by decide)));have nk2_:=zk (blk_grown (g:=gb8) (o:=.cells #[.slice Ao25 t5.length co25] 28 (0,0)) (zpu BK8.out) hgr (Kd.S_ne HO7.out BK8.out (by decide)));clear HB;have HB:=nB_;clear BK1;have BK1:=nk0_;clear BK2;have BK2:=nk1_;clear BK8;have BK8:=nk2_;clear hgr ho0 nB_ nk0_ nk1_ nk2_;clear HO7;obtain ⟨Ao30,co30,eo30⟩:=Kd.S_slice HO11.out;subst eo30;obtain ⟨hcz31_0,hfz31_0⟩:=blk1 BK8.out;obtain ⟨hcz32_0,hfz32_0⟩:=blk1 BK2.out))
    refine bodyPost_ret (results_ct rfl _ _ gb2 28 #[.slice Ao30 t9.length co30] (0,0) _ rfl (zpw BK2.out) Try.underlying28 rfl (by kernel_rfl)) rfl ?_
    exact ⟨_,za8,by (with_reducible repeat (first|apply Kd.S_alloc|apply Kd.S_drewN|apply Kd.S_drew));exact Kd.S_mono (zfS (Kd.S_far (p:=⟨gb8,0,none⟩) (Kd.S_types (Kd.S_types HO11.out BK8.out (by decide)) BK2.out (by decide)) (fun _ hk=>hk.1.2) (.slice Ao30 t9.length co30))) (fun _ hk=>trivial),za5⟩
theorem impl_WithoutConstraint.calls (k:Nat) (A0_0:Option Addr) (c0_0:Nat) (l0_0:List (S46)) (a1:Int) (r1:List (S46)) (r2:Bool) (w:World) (hr0_0:Kd.C k46 w A0_0 l0_0.length l0_0) (hc0_0:l0_0.length≤c0_0) (h:impl_WithoutConstraint.f k l0_0 a1=some (r1,r2)) :
  Calls Try.prog 7 #[.agg #[.slice A0_0 l0_0.length c0_0],.int .i64 a1] w fun e w'=>∃ v0_:Value,e = .returned (.tuple #[.agg #[v0_],.bool r2])∧Kd.R k46 46 w' w.heap.size (fun _=>True) v0_ r1∧Below w.heap.size w w' :=
 (impl_WithoutConstraint.apart k A0_0 c0_0 l0_0 a1 r1 r2 w hr0_0 hc0_0 h).mono fun _ _ ⟨v0_,he,h0,hb⟩=>⟨v0_,he,S_cons h0,hb⟩
end Go.Proofs.Yteolnmoomeenbaa.A
namespace Go.Proofs.Yteolnmoomeenbaa.A
open Go.RowKit Yteolnmoomeenbaa.Ext YteolnmoomeenbaaW.PrintWords YteolnmoomeenbaaW.PrintLast YteolnmoomeenbaaW.PrintMore
attribute [local go_sem] max2_int min2_int max_two min_two max_three min_three max_four min_four
def laws_markText.l0:Nat→Int→ByteArray→Option (ByteArray)
 | 0,_,_=>none
 | k+1,x0,x3=>if x0 > 0 then ((some (([(wrap64 (48+(Int.tmod x0 10))) % 256]:List Int):List Int)).bind fun y32001=>(if (strOfNums y32001).size+x3.size≤9223372036854775807 then (laws_markText.l0 k (wrap64 (Int.tdiv x0 10)) ((strOfNums y32001) ++ x3)) else (none))) else (if 1+x3.size≤9223372036854775807 then (some ((⟨#[109]⟩:ByteArray) ++ x3)) else (none))
def laws_markText.f (k:Nat) (a0:Int):Option (ByteArray):=if a0≤0 then (some (⟨#[109,48]⟩:ByteArray)) else (laws_markText.l0 k a0 (⟨#[]⟩:ByteArray))
theorem laws_markText.mono_l:∀ k,(∀ y0 y1,LeO (laws_markText.l0 k y0 y1) (laws_markText.l0 (k+1) y0 y1))
 | 0=>fun _ _ r h=>by simp [laws_markText.l0] at h
 | k+1=>by
  have ih0:=laws_markText.mono_l k
  ·intro y0 y1
   unfold laws_markText.l0
   repeat' first
   | with_reducible first|exact ih0 _ _|exact LeO.refl _|exact LeO.none _|refine LeO.ite ?_ ?_|refine LeO.bind ?_ (fun _=>?_)
theorem laws_markText.mono:∀ a0 k,LeO (laws_markText.f k a0) (laws_markText.f (k+1) a0):=by
 intro a0 k
 have ih0:=laws_markText.mono_l k
 unfold laws_markText.f
 repeat' first
  | with_reducible first|exact ih0 _ _|exact LeO.refl _|exact LeO.none _|refine LeO.ite ?_ ?_|refine LeO.bind ?_ (fun _=>?_)
theorem laws_markText.calls (k:Nat) (a0:Int) (r:ByteArray) (w:World) (h:laws_markText.f k a0=some r) :
  Calls Try.prog 32 #[.int .i64 a0] w fun e w'=>e = .returned (.string r)∧Below w.heap.size w w':=by
 have HB:=zk (Below.refl w.heap.size w)
 have H:=h
 unfold laws_markText.f at H
 clear h
 by_cases c2:a0≤0
 ·rw [if_pos c2] at H
  have c2b0:=zdle c2
  clear c2
  obtain rfl:=zi H
  go_enter Try.func32,Try.ntmps32
  go_wp2
  go_ret
  exact ⟨za8,za5⟩
 ·rw [if_neg c2] at H
  have c2b0:=zdnle c2
  clear c2
  have H':=zk H
  clear H
  go_enter Try.func32,Try.ntmps32
  go_wp2
  try simp only [Act.put,zt,zv,zu]
  go_loopg [0,3] k (fun kq v0 v3 w'=>∃ (x0_1:Int) (x3_1:ByteArray),v0 = .int .i64 x0_1∧v3 = .string x3_1∧Aside0 (laws_markText.l0 kq x0_1 x3_1=some r)∧Aside0 (kq≤k)∧Aside0 (Below w.heap.size w w'))
  case atStart=>exact ⟨(a0),((⟨#[]⟩:ByteArray)),za9,za9,H',⟨Nat.le_refl _⟩,⟨za5⟩⟩
  case round =>
   clear H'
   try clear c2
   try clear c2b0
   obtain ⟨x0_1,x3_1,rfl,rfl,HA,HK1,HB⟩:=hrel
   cases gk with
   | zero=>exact absurd HA.out (by simp [laws_markText.l0])
   | succ k1 =>
    have H:=HA.out
    clear HA
    simp only [laws_markText.l0] at H
    by_cases c3:x0_1 > 0
    rw [if_pos c3] at H
    have c3b0:=zdl c3
    clear c3
    obtain ⟨y32001,hy32001⟩:∃ y_:List Int,y_=(([(wrap64 (48+(Int.tmod x0_1 10))) % 256]:List Int)):=⟨_,rfl⟩
    replace H:(if (strOfNums y32001).size+x3_1.size≤9223372036854775807 then (laws_markText.l0 k1 (wrap64 (Int.tdiv x0_1 10)) ((strOfNums y32001) ++ x3_1)) else (none))=some r:=by first|(rw [hy32001];with_reducible exact H)|(have H2_:=(Option.bind_some _ _).symm.trans H;rw [hy32001];with_reducible exact H2_)|(have H2_:=(Option.bind_some _ _).symm.trans H;with_reducible exact H2_)|with_reducible exact H|(rw [hy32001];exact H)|exact H
    have Ny1:=zk hy32001
    clear hy32001
    by_cases c4:(strOfNums y32001).size+x3_1.size≤9223372036854775807
    ·rw [if_pos c4] at H
     have c4z:=c4
     try simp at c4z
     try replace c4z:=eq_false (Nat.not_lt.2 c4z)
     have c4b0:=eq_true c4
     have c4b1:=zdle c4
     try have c4b2:(9223372036854775807 < (strOfNums y32001).size+x3_1.size)=False:=eq_false (Nat.not_lt.2 c4)
     have H':=zk H
     clear H
     go_wp2_with (first|((with_reducible refine gate_dst (N:=12) rfl ?_);refine Kd.R_lit (Kd.int .u8) _ 5 ?hg (N:=12) ?hd (xs:=([(wrap64 (48+(Int.tmod x0_1 10))) % 256]:List Int)) (inner:=[.int .u8 ((wrap64 (48+(Int.tmod x0_1 10))) % 256)]) (ok:=fun _=>True) (okp:=fun _=>True) ?hr ?hp (fun _ hk=>hk) trivial (Below.refl _ _) (Nat.le_refl _) (by simp) ?_;(case hd=>rfl);(case hg=>rfl);(case hr=>first|(go_simp;done)|(go_simp;rfl));(case hp=>exact (Reps.one (show Kd.M (Kd.int .u8) _ _ _ ((wrap64 (48+(Int.tmod x0_1 10))) % 256) [.int .u8 ((wrap64 (48+(Int.tmod x0_1 10))) % 256)] from rfl) (Reps.none _ _)));intro v2 w5 ho6 hb hg_ hnew_;clear hg_ hnew_;(first|rw [← Ny1.out] at ho6|(simp only [Int.reduceToNat] at ho6;rw [← Ny1.out] at ho6));have HO3:=zk (Kd.R_lower ho6 (below_size za5));replace HB:=yB HB hb;clear hb ho6;have hcv7:=own_string (P:=Try.prog) Try.underlying75 Try.underlying5 Try.underlying9 (Kd.own_of_R HO3.out)))
     go_roundg k1
     case measure=>have:=HK1.out;omega
     case rel=>exact ⟨(wrap64 (Int.tdiv x0_1 10)),((strOfNums y32001) ++ x3_1),za9,za9,H',⟨za11⟩,⟨za5⟩⟩
    ·rw [if_neg c4] at H
     exact absurd H (by simp)
    rw [if_neg c3] at H
    have c3b0:=zdnl c3
    clear c3
    by_cases c8:1+x3_1.size≤9223372036854775807
    ·rw [if_pos c8] at H
     have c8z:=c8
     try simp at c8z
     try replace c8z:=eq_false (Nat.not_lt.2 c8z)
     have c8b0:=eq_true c8
     have c8b1:=zdle c8
     try have c8b2:(9223372036854775807 < 1+x3_1.size)=False:=eq_false (Nat.not_lt.2 c8)
     obtain rfl:=zi H
     go_wp2
     go_ret
     exact ⟨za8,za5⟩
    ·rw [if_neg c8] at H
     exact absurd H (by simp)
end Go.Proofs.Yteolnmoomeenbaa.A
-- ALSO loop.example/g00582/laws.markText
namespace Go.Proofs.Yteolnmoomeenbaa.Ext
open Go Go.RowKit YteolnmoomeenbaaW.PrintWords YteolnmoomeenbaaW.PrintLast Yteolnmoomeenbaa.A
def Same (v u:Value):Prop:=(∃ a b,v = .int .i64 a∧u = .int .i64 b)∨(∃ a b,v = .string a∧u = .string b)∨v=u
theorem Same.trans {v u t:Value} (h:Same v u) (k:Same u t):Same v t:=by
 rcases h with ⟨a,b,rfl,rfl⟩|⟨a,b,rfl,rfl⟩|rfl
 ·rcases k with ⟨c,e,_,rfl⟩|⟨c,e,h,_⟩|rfl
  ·exact .inl ⟨a,e,rfl,rfl⟩
  ·cases h
  ·exact .inl ⟨a,b,rfl,rfl⟩
 ·rcases k with ⟨c,e,h,_⟩|⟨c,e,_,rfl⟩|rfl
  ·cases h
  ·exact .inr (.inl ⟨a,e,rfl,rfl⟩)
  ·exact .inr (.inl ⟨a,b,rfl,rfl⟩)
 ·exact k
theorem Same.int {a:Int} {u:Value} (h:Same (.int .i64 a) u):∃ b,u = .int .i64 b:=by
 rcases h with ⟨_,b,_,rfl⟩|⟨_,_,h,_⟩|rfl
 ·exact ⟨b,rfl⟩
 ·cases h
 ·exact ⟨a,rfl⟩
theorem Same.str {a:ByteArray} {u:Value} (h:Same (.string a) u):∃ b,u = .string b:=by
 rcases h with ⟨_,_,h,_⟩|⟨_,b,_,rfl⟩|rfl
 ·cases h
 ·exact ⟨b,rfl⟩
 ·exact ⟨a,rfl⟩
theorem Same.slc {A:Option Addr} {n c:Nat} {u:Value} (h:Same (.slice A n c) u):u = .slice A n c:=by
 rcases h with ⟨_,_,h,_⟩|⟨_,_,h,_⟩|rfl
 ·cases h
 ·cases h
 ·rfl
structure Mk (lo hi : Nat) (W W' : World) : Prop where
 sz:W.heap.size≤W'.heap.size
 fr:∀ k,k < W.heap.size→¬(lo≤k∧k < hi)→W'.heap[k]? = W.heap[k]?
 bl:∀ (g:Nat) (cs:Array Value) (t:TypeId),W.heap[g]? = some (.cells cs t (0,0))→∃ cs':Array Value,W'.heap[g]? = some (.cells cs' t (0,0))∧∀ (j:Nat) (v:Value),cs[j]? = some v→∃ v',cs'[j]? = some v'∧Same v v'
 lw:∀ (n:Nat) (w0:World),n≤lo→Below n w0 W→n≤W.heap.size→Below n w0 W'
section
variable {lo hi : Nat} {W W1 W2 : World}
theorem Mk.refl (lo hi:Nat) (W:World):Mk lo hi W W:=⟨Nat.le_refl _,fun _ _ _=>rfl,fun _ cs _ h=>⟨cs,h,fun _ v hv=>⟨v,hv,.inr (.inr rfl)⟩⟩,fun _ _ _ h _=>h⟩
theorem Mk.trans (h:Mk lo hi W W1) (k:Mk lo hi W1 W2):Mk lo hi W W2:=by
 refine ⟨Nat.le_trans h.sz k.sz,fun q hq hn=>(k.fr q (Nat.lt_of_lt_of_le hq h.sz) hn).trans (h.fr q hq hn),fun g cs t hg=>?_,fun n w0 hn hb hs=>k.lw n w0 hn (h.lw n w0 hn hb hs) (Nat.le_trans hs h.sz)⟩
 obtain ⟨c1,h1,h2⟩:=h.bl g cs t hg
 obtain ⟨c2,k1,k2⟩:=k.bl g c1 t h1
 refine ⟨c2,k1,fun j v hv=>?_⟩
 obtain ⟨v1,e1,s1⟩:=h2 j v hv
 obtain ⟨v2,e2,s2⟩:=k2 j v1 e1
 exact ⟨v2,e2,s1.trans s2⟩
theorem Mk.below (hb:Below W.heap.size W W1):Mk lo hi W W1 :=
 ⟨hb.size,fun k hk _=>hb.block k hk,fun g cs _ h=>⟨cs,blk_below h hb,fun _ v hv=>⟨v,hv,.inr (.inr rfl)⟩⟩,fun n w0 _ h hs=>⟨hb.os.trans h.os,hb.tape.trans h.tape,hb.output.trans h.output,Nat.le_trans h.size hb.size,fun k hk=>(hb.block k (Nat.lt_of_lt_of_le hk hs)).trans (h.block k hk)⟩⟩
theorem Mk.set {g i:Nat} {cs:Array Value} {t:TypeId} (hg:W.heap[g]? = some (.cells cs t (0,0))) (h1:lo≤g) (h2:g < hi) {v u:Value} (hv:W.cell? ⟨g,i,none⟩=some v) (hs:Same v u):Mk lo hi W (W.setCell ⟨g,i,none⟩ u):=by
 have hlt:i < cs.size:=by
  rw [blk_cell hg] at hv
  exact (Array.getElem?_eq_some_iff.1 hv).1
 refine ⟨?_,fun k _ hn=>?_,fun g' cs' t' hg' => ?_,fun n w0 hn hb _=>hb.setCell (p:=⟨g,i,none⟩) (Nat.le_trans hn h1) u⟩
 ·exact Nat.le_of_eq (by simp)
 ·rw [Below.heap_setCell W ⟨g,i,none⟩ u k (fun e=>hn (by rw [show k=g from e];exact ⟨h1,h2⟩))]
 ·by_cases e:g'=g
  ·subst e
   rw [hg] at hg'
   injection hg' with hg'
   injection hg' with e1 e2 _
   subst e1
   subst e2
   refine ⟨_,blk_set hg i u,fun j x hx=>?_⟩
   by_cases ej:i=j
   ·subst ej
    rw [blk_cell hg] at hv
    rw [hv] at hx
    obtain rfl:=zi hx
    exact ⟨u,by rw [Array.getElem?_setIfInBounds_self,if_pos hlt],hs⟩
   ·exact ⟨x,by rw [Array.getElem?_setIfInBounds_ne ej];exact hx,.inr (.inr rfl)⟩
  ·exact ⟨cs',(Below.heap_setCell W ⟨g,i,none⟩ u g' e).trans hg',fun _ x hx=>⟨x,hx,.inr (.inr rfl)⟩⟩
theorem Mk.cell (h:Mk lo hi W W1) {g i:Nat} {cs:Array Value} {t:TypeId} (hg:W.heap[g]? = some (.cells cs t (0,0))) {v:Value} (hv:W.cell? ⟨g,i,none⟩=some v):∃ v',W1.cell? ⟨g,i,none⟩=some v'∧Same v v':=by
 obtain ⟨c1,h1,h2⟩:=h.bl g cs t hg
 rw [blk_cell hg] at hv
 obtain ⟨v',e,s⟩:=h2 i v hv
 exact ⟨v',(blk_cell h1 i).trans e,s⟩
end
def ShI (lo hi:Nat) (W:World) (v:Value) (m:Nat):Prop:=∃ A c,v = .slice A m c∧∀ n,n < m→∃ g,A=some ⟨g,0,none⟩∧lo≤g∧g < hi∧(∃ cs t,W.heap[g]? = some (.cells cs t (0,0)))∧∃ x,W.cell? ⟨g,n,none⟩=some (.int .i64 x)
def ShR (lo hi:Nat):Nat→World→Value→List S43→Prop
 | 0,_,v,xs=>∃ A c,v = .slice A xs.length c∧xs = []
 | d+1,W,v,xs=>∃ A c,v = .slice A xs.length c∧∀ (n:Nat) (h:n < xs.length),∃ g,A=some ⟨g,0,none⟩∧lo≤g∧g < hi∧(∃ cs t,W.heap[g]? = some (.cells cs t (0,0)))∧(∃ x,W.cell? ⟨g,n * 3,none⟩=some (.int .i64 x))∧(∃ x,W.cell? ⟨g,n * 3+1,none⟩=some (.string x))∧∃ A2 c2,W.cell? ⟨g,n * 3+2,none⟩=some (.slice A2 xs[n].f2.length c2)∧ShR lo hi d W (.slice A2 xs[n].f2.length c2) xs[n].f2
def ShC (lo hi:Nat) (W:World) (v:Value) (xs:List S46) (d:Nat):Prop:=∃ A c,v = .slice A xs.length c∧∀ (n:Nat) (h:n < xs.length),∃ g,A=some ⟨g,0,none⟩∧lo≤g∧g < hi∧(∃ cs t,W.heap[g]? = some (.cells cs t (0,0)))∧(∃ x,W.cell? ⟨g,n * 8,none⟩=some (.int .i64 x))∧(∃ x,W.cell? ⟨g,n * 8+1,none⟩=some (.string x))∧(∃ x,W.cell? ⟨g,n * 8+2,none⟩=some (.string x))∧(∃ x,W.cell? ⟨g,n * 8+3,none⟩=some (.int .i64 x))∧(∃ x,W.cell? ⟨g,n * 8+4,none⟩=some (.string x)) ∧
 (∃ A2 c2,W.cell? ⟨g,n * 8+5,none⟩=some (.slice A2 xs[n].f3.f2.length c2)∧ShR lo hi d W (.slice A2 xs[n].f3.f2.length c2) xs[n].f3.f2)∧(∃ A2 c2,W.cell? ⟨g,n * 8+6,none⟩=some (.slice A2 xs[n].f4.length c2)∧ShI lo hi W (.slice A2 xs[n].f4.length c2) xs[n].f4.length)∧∃ x,W.cell? ⟨g,n * 8+7,none⟩=some (.int .i64 x)
section
variable {lo hi : Nat} {W W1 : World}
theorem mk_int (m:Mk lo hi W W1) {g i:Nat} (hb:∃ cs t,W.heap[g]? = some (.cells cs t (0,0))) (h:∃ x,W.cell? ⟨g,i,none⟩=some (.int .i64 x)):∃ x,W1.cell? ⟨g,i,none⟩=some (.int .i64 x):=by
 obtain ⟨cs,t,hg⟩:=hb
 obtain ⟨x,hx⟩:=h
 obtain ⟨v',e,s⟩:=m.cell hg hx
 obtain ⟨b,rfl⟩:=s.int
 exact ⟨b,e⟩
theorem mk_str (m:Mk lo hi W W1) {g i:Nat} (hb:∃ cs t,W.heap[g]? = some (.cells cs t (0,0))) (h:∃ x,W.cell? ⟨g,i,none⟩=some (.string x)):∃ x,W1.cell? ⟨g,i,none⟩=some (.string x):=by
 obtain ⟨cs,t,hg⟩:=hb
 obtain ⟨x,hx⟩:=h
 obtain ⟨v',e,s⟩:=m.cell hg hx
 obtain ⟨b,rfl⟩:=s.str
 exact ⟨b,e⟩
theorem mk_slc (m:Mk lo hi W W1) {g i:Nat} (hb:∃ cs t,W.heap[g]? = some (.cells cs t (0,0))) {A:Option Addr} {n c:Nat} (h:W.cell? ⟨g,i,none⟩=some (.slice A n c)):W1.cell? ⟨g,i,none⟩=some (.slice A n c):=by
 obtain ⟨cs,t,hg⟩:=hb
 obtain ⟨v',e,s⟩:=m.cell hg h
 obtain rfl:=s.slc
 exact e
theorem mk_blk (m:Mk lo hi W W1) {g:Nat} (hb:∃ cs t,W.heap[g]? = some (.cells cs t (0,0))):∃ cs t,W1.heap[g]? = some (.cells cs t (0,0)):=by
 obtain ⟨cs,t,hg⟩:=hb
 obtain ⟨c1,h1,_⟩:=m.bl g cs t hg
 exact ⟨c1,t,h1⟩
theorem ShI.mk {v:Value} {n:Nat} (h:ShI lo hi W v n) (m:Mk lo hi W W1):ShI lo hi W1 v n:=by
 obtain ⟨A,c,e,h⟩:=h
 refine ⟨A,c,e,fun i hi=>?_⟩
 obtain ⟨g,e1,h1,h2,hb,hx⟩:=h i hi
 exact ⟨g,e1,h1,h2,mk_blk m hb,mk_int m hb hx⟩
theorem ShR.mk:∀ (d:Nat) (v:Value) (xs:List S43),ShR lo hi d W v xs→Mk lo hi W W1→ShR lo hi d W1 v xs
 | 0,_,_,h,_=>h
 | d+1,v,xs,h,m=>by
  obtain ⟨A,c,e,h⟩:=h
  refine ⟨A,c,e,fun i hi=>?_⟩
  obtain ⟨g,e1,h1,h2,hb,hx,hy,A2,c2,hz,hs⟩:=h i hi
  exact ⟨g,e1,h1,h2,mk_blk m hb,mk_int m hb hx,mk_str m hb hy,A2,c2,mk_slc m hb hz,ShR.mk d _ _ hs m⟩
theorem ShC.mk {v:Value} {xs:List S46} {d:Nat} (h:ShC lo hi W v xs d) (m:Mk lo hi W W1):ShC lo hi W1 v xs d:=by
 obtain ⟨A,c,e,h⟩:=h
 refine ⟨A,c,e,fun i hi=>?_⟩
 obtain ⟨g,e1,h1,h2,hb,q0,q1,q2,q3,q4,⟨A5,c5,q5,s5⟩,⟨A6,c6,q6,s6⟩,q7⟩:=h i hi
 exact ⟨g,e1,h1,h2,mk_blk m hb,mk_int m hb q0,mk_str m hb q1,mk_str m hb q2,mk_int m hb q3,mk_str m hb q4,⟨A5,c5,mk_slc m hb q5,ShR.mk d _ _ s5 m⟩,⟨A6,c6,mk_slc m hb q6,s6.mk m⟩,mk_int m hb q7⟩
end
theorem w64n {x:Int} (h : -9223372036854775808≤x) (h':x≤9223372036854775807):wrap64 x=x:=by unfold wrap64;omega
set_option maxHeartbeats 4000000 in
theorem mark_is (lo hi m:Nat) (v:Value) (W:World) (a1:Int) (h:ShI lo hi W v m) (h0:0≤a1) (h1:a1+m≤4611686018427387904) :
  Calls Try.prog 34 #[v,.int .i64 a1] W fun e W'=>∃ r:Int,e = .returned (.int .i64 r)∧r=a1+m∧Mk lo hi W W':=by
 have HS:=zk h
 obtain ⟨A,c,rfl,_⟩:=h
 have H0:=zk h0
 have H1:=zk h1
 clear h0 h1
 go_enter Try.func34,Try.ntmps34
 go_wp2
 go_loopg [1,5] m (fun gk v1 v5 w'=>∃ (n:Nat) (q:Int),v1 = .int .i64 q∧v5 = .int .i64 (n:Int)∧Aside0 (q=a1+n)∧Aside0 (n+gk=m)∧Aside0 (Mk lo hi W w'))
 case atStart=>exact ⟨0,a1,rfl,rfl,⟨by simp⟩,⟨by omega⟩,⟨Mk.refl _ _ _⟩⟩
 case round =>
  obtain ⟨n,q,rfl,rfl,HQ,HN,HM⟩:=hrel
  by_cases hlt:n < m
  ·obtain ⟨A',c',e',hs⟩:=HS.out.mk HM.out
   obtain ⟨g,eA,g1,g2,⟨cs,t,hb⟩,x,hx⟩:=hs n hlt
   injection e' with e1 _ e3
   subst e3
   subst e1
   subst eA
   have hf:=blk_frozen hb n
   have c3b0:decide (n < m)=true:=decide_eq_true hlt
   have c3b1:decide ((n:Int) < (m:Int))=true:=decide_eq_true (by omega)
   have p4:((0:Int)≤(n:Int))=True:=eq_true (by omega)
   have q4:((n:Int) < (m:Int))=True:=eq_true (by omega)
   have q5:(n < m)=True:=eq_true hlt
   have HT:=zk (Mk.set hb g1 g2 hx (u:=.int .i64 q) (.inl ⟨_,_,rfl,rfl⟩))
   obtain ⟨q1,hq1⟩:∃ q1,wrap64 (q+1)=q1:=⟨_,rfl⟩
   have HQ1:Aside0 (q1=a1+((n+1:Nat):Int)):=⟨by rw [← hq1,w64n (by have:=HQ.out;have:=H0.out;omega) (by have:=HQ.out;have:=H1.out;omega)];have:=HQ.out;omega⟩
   obtain ⟨n1,hn1⟩:∃ n1:Int,wrap64 ((n:Int)+1)=n1:=⟨_,rfl⟩
   have HN1:Aside0 (n1=((n+1:Nat):Int)):=⟨by rw [← hn1,w64n (by omega) (by have:=H0.out;have:=H1.out;omega)];omega⟩
   cases gk with
   | zero=>exact absurd HN.out (by omega)
   | succ k1 =>
    clear hs hb hlt
    go_wp2_with ((with_reducible refine gate_store (t:=3) (p:=15) rfl ?_);refine store_event (t:=3) (p:=15) (v:=?vo) (w1:=(wr.setCell ⟨g,n,none⟩ (.int .i64 q))) ?hg ?ho ?hn ?hr ?_;(case ho=>rfl);(case hg=>rfl);(case hn=>rfl);(case hr=>first|(go_simp;done)|(go_simp;rfl));intro w3 hw;have M3:Aside0 (Mk lo hi W w3):=⟨by rw [hw];exact HM.out.trans HT.out⟩;clear hw hx hf)
    go_roundg k1
    case measure=>omega
    case rel=>exact ⟨n+1,q1,rfl,by rw [← HN1.out],HQ1,⟨by have:=HN.out;omega⟩,M3⟩
  ·have c3b0:decide (n < m)=false:=decide_eq_false hlt
   have c3b1:decide ((n:Int) < (m:Int))=false:=decide_eq_false (by omega)
   have HE:Aside0 (q=a1+(m:Int)):=⟨by have:=HQ.out;have:=HN.out;omega⟩
   clear hlt
   go_wp2
   go_ret
   exact ⟨q,za30,HE.out,HM.out⟩
-- WALKS
def cntR:Nat→List S43→Nat
 | 0,_=>0
 | d+1,xs=>(xs.map fun y=>2+cntR d y.f2).sum
def cntC (d:Nat) (xs:List S46):Nat:=(xs.map fun y=>6+cntR d y.f3.f2+y.f4.length).sum
theorem sum_take {α:Type} (f:α→Nat) (xs:List α) (n:Nat) (h:n < xs.length):((xs.take (n+1)).map f).sum=((xs.take n).map f).sum+f xs[n]:=by
 rw [List.take_succ_eq_append_getElem h,List.map_append,List.sum_append]
 simp
theorem sum_le {α:Type} (f:α→Nat) (xs:List α) (n:Nat) (h:n < xs.length):((xs.take n).map f).sum+f xs[n]≤(xs.map f).sum:=by
 rw [← sum_take f xs n h]
 conv=>rhs;rw [← List.take_append_drop (n+1) xs,List.map_append,List.sum_append]
 omega
theorem sum_len {α:Type} (f:α→Nat) (hf:∀ x,1≤f x) (xs:List α):xs.length≤(xs.map f).sum:=by
 induction xs with
 | nil=>simp
 | cons x xs ih=>have:=hf x;simp only [List.map_cons,List.sum_cons,List.length_cons];omega
theorem cntR_succ (d:Nat) (xs:List S43) (n:Nat) (h:n < xs.length):cntR (d+1) (xs.take (n+1))=cntR (d+1) (xs.take n)+(2+cntR d xs[n].f2):=sum_take _ xs n h
theorem cntR_le (d:Nat) (xs:List S43) (n:Nat) (h:n < xs.length):cntR (d+1) (xs.take n)+(2+cntR d xs[n].f2)≤cntR (d+1) xs:=sum_le (fun y:S43=>2+cntR d y.f2) xs n h
theorem cntR_len (d:Nat) (xs:List S43):xs.length≤cntR (d+1) xs:=sum_len _ (fun x=>by omega) xs
theorem cntC_succ (d:Nat) (xs:List S46) (n:Nat) (h:n < xs.length):cntC d (xs.take (n+1))=cntC d (xs.take n)+(6+cntR d xs[n].f3.f2+xs[n].f4.length):=sum_take _ xs n h
theorem cntC_le (d:Nat) (xs:List S46) (n:Nat) (h:n < xs.length):cntC d (xs.take n)+(6+cntR d xs[n].f3.f2+xs[n].f4.length)≤cntC d xs:=sum_le (fun y:S46=>6+cntR d y.f3.f2+y.f4.length) xs n h
theorem cntC_len (d:Nat) (xs:List S46):xs.length≤cntC d xs:=sum_len _ (fun x=>by omega) xs
section
variable {lo hi : Nat} {W : World} {A : Option Addr} {c n : Nat}
theorem shr_val {d:Nat} {v:Value} {xs:List S43} (h:ShR lo hi (d+1) W v xs):∃ A c,v = .slice A xs.length c:=by
 obtain ⟨A,c,e,_⟩:=h
 exact ⟨A,c,e⟩
theorem shr_g {d:Nat} {xs:List S43} (h:ShR lo hi (d+1) W (.slice A xs.length c) xs) (hn:n < xs.length):∃ g,A=some ⟨g,0,none⟩:=by
 obtain ⟨A',c',e,h⟩:=h
 injection e with e1 _ _
 subst e1
 obtain ⟨g,e,_⟩:=h n hn
 exact ⟨g,e⟩
theorem shr_at {d g:Nat} {xs:List S43} (h:ShR lo hi (d+1) W (.slice (some ⟨g,0,none⟩) xs.length c) xs) (hn:n < xs.length):lo≤g∧g < hi∧(∃ cs t,W.heap[g]? = some (.cells cs t (0,0)))∧(∃ x,W.cell? ⟨g,n * 3,none⟩=some (.int .i64 x))∧(∃ x,W.cell? ⟨g,n * 3+1,none⟩=some (.string x))∧∃ A2 c2,W.cell? ⟨g,n * 3+2,none⟩=some (.slice A2 xs[n].f2.length c2)∧ShR lo hi d W (.slice A2 xs[n].f2.length c2) xs[n].f2:=by
 obtain ⟨A',c',e,h⟩:=h
 injection e with e1 _ _
 subst e1
 obtain ⟨g',e,h⟩:=h n hn
 injection e with e
 injection e with e
 subst e
 exact h
theorem shc_val {d:Nat} {v:Value} {xs:List S46} (h:ShC lo hi W v xs d):∃ A c,v = .slice A xs.length c:=by
 obtain ⟨A,c,e,_⟩:=h
 exact ⟨A,c,e⟩
theorem shc_g {d:Nat} {xs:List S46} (h:ShC lo hi W (.slice A xs.length c) xs d) (hn:n < xs.length):∃ g,A=some ⟨g,0,none⟩:=by
 obtain ⟨A',c',e,h⟩:=h
 injection e with e1 _ _
 subst e1
 obtain ⟨g,e,_⟩:=h n hn
 exact ⟨g,e⟩
theorem shc_at {d g:Nat} {xs:List S46} (h:ShC lo hi W (.slice (some ⟨g,0,none⟩) xs.length c) xs d) (hn:n < xs.length):lo≤g∧g < hi∧(∃ cs t,W.heap[g]? = some (.cells cs t (0,0)))∧(∃ x,W.cell? ⟨g,n * 8,none⟩=some (.int .i64 x))∧(∃ x,W.cell? ⟨g,n * 8+1,none⟩=some (.string x))∧(∃ x,W.cell? ⟨g,n * 8+2,none⟩=some (.string x))∧(∃ x,W.cell? ⟨g,n * 8+3,none⟩=some (.int .i64 x))∧(∃ x,W.cell? ⟨g,n * 8+4,none⟩=some (.string x)) ∧
  (∃ A2 c2,W.cell? ⟨g,n * 8+5,none⟩=some (.slice A2 xs[n].f3.f2.length c2)∧ShR lo hi d W (.slice A2 xs[n].f3.f2.length c2) xs[n].f3.f2)∧(∃ A2 c2,W.cell? ⟨g,n * 8+6,none⟩=some (.slice A2 xs[n].f4.length c2)∧ShI lo hi W (.slice A2 xs[n].f4.length c2) xs[n].f4.length)∧∃ x,W.cell? ⟨g,n * 8+7,none⟩=some (.int .i64 x):=by
 obtain ⟨A',c',e,h⟩:=h
 injection e with e1 _ _
 subst e1
 obtain ⟨g',e,h⟩:=h n hn
 injection e with e
 injection e with e
 subst e
 exact h
end
set_option maxHeartbeats 4000000 in
theorem mark_rx (lo hi:Nat) (hT:Aside0 (∀ q:Int,0≤q→q≤4611686018427387904→∃ k t,laws_markText.f k q=some t)):∀ (d:Nat) (xs:List S43) (v:Value) (a1:Int) (W:World),ShR lo hi d W v xs→0≤a1→a1+(cntR d xs:Nat)≤4611686018427387904 →
  Calls Try.prog 33 #[v,.int .i64 a1] W fun e W'=>∃ r:Int,e = .returned (.int .i64 r)∧r=a1+(cntR d xs:Nat)∧Mk lo hi W W':=by
 intro d
 induction d with
 | zero =>
  intro xs v a1 W h h0 h1
  obtain ⟨A,c,rfl,rfl⟩:=h
  go_enter Try.func33,Try.ntmps33
  go_wp2
  go_loopg [1,5] 0 (fun gk v1 v5 w'=>v1 = .int .i64 a1∧v5 = .int .i64 0∧w'=W)
  case atStart=>exact ⟨rfl,rfl,rfl⟩
  case round =>
   obtain ⟨rfl,rfl,rfl⟩:=hrel
   go_wp2
   go_ret
   exact ⟨a1,za30,by simp [cntR],Mk.refl _ _ _⟩
 | succ d ih =>
 intro xs v a1 W h h0 h1
 have HI:=zk ih
 have HB:Aside0 (xs.length≤4611686018427387904):=⟨by have:=cntR_len d xs;omega⟩
 clear ih
 have HS:=zk h
 have H0:=zk h0
 have H1:=zk h1
 obtain ⟨A,c,rfl⟩:=shr_val h
 clear h h0 h1
 go_enter Try.func33,Try.ntmps33
 go_wp2
 go_loopg [1,5] xs.length (fun gk v1 v5 w'=>∃ (n:Nat) (q0:Int),v1 = .int .i64 q0∧v5 = .int .i64 (n:Int)∧Aside0 (q0=a1+(cntR (d+1) (xs.take n):Nat))∧Aside0 (n+gk=xs.length)∧Aside0 (Mk lo hi W w'))
 case atStart=>exact ⟨0,a1,rfl,rfl,⟨by simp [cntR]⟩,⟨by omega⟩,⟨Mk.refl _ _ _⟩⟩
 case round =>
  obtain ⟨n,q0,rfl,rfl,Q0,HN,M⟩:=hrel
  by_cases hlt:n < xs.length
  ·skip
   have HLT:=zk hlt
   have LE:Aside0 ((cntR (d+1) (xs.take n):Nat)+(2+cntR d xs[n].f2:Nat)≤(cntR (d+1) xs:Nat)):=⟨cntR_le _ xs n hlt⟩
   obtain ⟨g,eA⟩:=shr_g HS.out hlt
   subst eA
   have G1:=zk (shr_at HS.out hlt).1
   have G2:=zk (shr_at HS.out hlt).2.1
   obtain ⟨_,_,⟨cs_,t_,b_⟩,⟨x0_,h0_⟩,⟨x1_,h1_⟩,⟨A2_,c2_,h2_,s2_⟩⟩:=shr_at (ShR.mk _ _ _ HS.out M.out) HLT.out
   have B_:=zk b_
   have f0_:=blk_frozen b_ (n * 3)
   have f1_:=blk_frozen b_ (n * 3+1)
   have f2_:=blk_frozen b_ (n * 3+2)
   have S2_:=zk s2_
   clear s2_
   clear b_
   have c3b0:decide (n < xs.length)=true:=decide_eq_true hlt
   have c3b1:decide ((n:Int) < (xs.length:Int))=true:=decide_eq_true (by omega)
   have p4:((0:Int)≤(n:Int))=True:=eq_true (by omega)
   have q4_:((n:Int) < (xs.length:Int))=True:=eq_true (by omega)
   have q5_:(n < xs.length)=True:=eq_true hlt
   have LO0:Aside0 (0≤q0):=⟨by have:=Q0.out;have:=H0.out;omega⟩
   have UP0:Aside0 (q0=a1+((cntR (d+1) (xs.take n):Nat):Int)+0):=⟨by have:=Q0.out;omega⟩
   obtain ⟨q1,hq1⟩:∃ q1,wrap64 (q0+1)=q1:=⟨_,rfl⟩
   have Q1:Aside0 (q1=q0+1):=⟨za15⟩
   have LO1:Aside0 (0≤q1):=⟨by have:=Q1.out;have:=LO0.out;omega⟩
   have UP1:Aside0 (q1=a1+((cntR (d+1) (xs.take n):Nat):Int)+1):=⟨by have:=Q1.out;have:=UP0.out;omega⟩
   obtain ⟨q2,hq2⟩:∃ q2,wrap64 (q1+1)=q2:=⟨_,rfl⟩
   have Q2:Aside0 (q2=q1+1):=⟨by rw [← hq2];exact w64n za28 za14⟩
   have LO2:Aside0 (0≤q2):=⟨by have:=Q2.out;have:=LO1.out;omega⟩
   have UP2:Aside0 (q2=a1+((cntR (d+1) (xs.take n):Nat):Int)+2):=⟨by have:=Q2.out;have:=UP1.out;omega⟩
   obtain ⟨n1,hn1⟩:∃ n1:Int,wrap64 ((n:Int)+1)=n1:=⟨_,rfl⟩
   have HN1:Aside0 (n1=((n+1:Nat):Int)):=⟨za20⟩
   obtain ⟨kt1,t1,T1_⟩:=hT.out q1 za28 za14
   have T1:=zk T1_
   clear T1_
   cases gk with
   | zero=>exact absurd HN.out (by omega)
   | succ k1 =>
    skip
    go_wp2_with (first
     | ((with_reducible refine gate_store (t:=3) (p:=16) rfl ?_);refine store_event (t:=3) (p:=16) (v:=?vo_16) (w1:=(wr.setCell ⟨g,n * 3,none⟩ (.int .i64 q0))) ?hg ?ho ?hn ?hr ?_;(case ho=>rfl);(case hg=>rfl);(case hn=>rfl);(case hr=>first|(go_simp;done)|(go_simp;rfl));intro w3 hw;have n1:Aside0 (Mk lo hi W w3):=⟨by rw [hw];exact M.out.trans (Mk.set B_.out G1.out G2.out h0_ (.inl ⟨_,_,rfl,rfl⟩))⟩;clear hw;clear M B_ h0_ h1_ h2_ f0_ f1_ f2_ S2_;have M:=n1;clear n1;obtain ⟨_,_,⟨cs_,t_,b_⟩,⟨x0_,h0_⟩,⟨x1_,h1_⟩,⟨A2_,c2_,h2_,s2_⟩⟩:=shr_at (ShR.mk _ _ _ HS.out M.out) HLT.out;have B_:=zk b_;have f0_:=blk_frozen b_ (n * 3);have f1_:=blk_frozen b_ (n * 3+1);have f2_:=blk_frozen b_ (n * 3+2);have S2_:=zk s2_;clear s2_;clear b_)
     | (go_at_call 32;(with_reducible refine (laws_markText.calls _ _ _ _ T1.out).mono ?_);rintro e w4 ⟨rfl,hb⟩;have n1:=zk (M.out.trans (Mk.below hb));clear hb;clear M B_ h0_ h1_ h2_ f0_ f1_ f2_ S2_;have M:=n1;clear n1;obtain ⟨_,_,⟨cs_,t_,b_⟩,⟨x0_,h0_⟩,⟨x1_,h1_⟩,⟨A2_,c2_,h2_,s2_⟩⟩:=shr_at (ShR.mk _ _ _ HS.out M.out) HLT.out;have B_:=zk b_;have f0_:=blk_frozen b_ (n * 3);have f1_:=blk_frozen b_ (n * 3+1);have f2_:=blk_frozen b_ (n * 3+2);have S2_:=zk s2_;clear s2_;clear b_)
     | ((with_reducible refine gate_store (t:=9) (p:=24) rfl ?_);refine store_event (t:=9) (p:=24) (v:=?vo_24) (w1:=(w4.setCell ⟨g,n * 3+1,none⟩ (.string t1))) ?hg ?ho ?hn ?hr ?_;(case ho=>rfl);(case hg=>rfl);(case hn=>rfl);(case hr=>first|(go_simp;done)|(go_simp;rfl));intro w5 hw;have n1:Aside0 (Mk lo hi W w5):=⟨by rw [hw];exact M.out.trans (Mk.set B_.out G1.out G2.out h1_ (.inr (.inl ⟨_,_,rfl,rfl⟩)))⟩;clear hw;clear M B_ h0_ h1_ h2_ f0_ f1_ f2_ S2_;have M:=n1;clear n1;obtain ⟨_,_,⟨cs_,t_,b_⟩,⟨x0_,h0_⟩,⟨x1_,h1_⟩,⟨A2_,c2_,h2_,s2_⟩⟩:=shr_at (ShR.mk _ _ _ HS.out M.out) HLT.out;have B_:=zk b_;have f0_:=blk_frozen b_ (n * 3);have f1_:=blk_frozen b_ (n * 3+1);have f2_:=blk_frozen b_ (n * 3+2);have S2_:=zk s2_;clear s2_;clear b_)
     | (go_at_call 33;(with_reducible refine (HI.out _ _ q2 _ S2_.out (by have:=LO2.out;omega) (by have:=UP2.out;have:=LE.out;have:=H1.out;omega)).mono ?_);rintro e w6 ⟨q3,rfl,hq_,hm⟩;have Qq3:=zk hq_;have n1:=zk (M.out.trans hm);clear hm hq_;clear M B_ h0_ h1_ h2_ f0_ f1_ f2_ S2_;have M:=n1;clear n1;obtain ⟨_,_,⟨cs_,t_,b_⟩,⟨x0_,h0_⟩,⟨x1_,h1_⟩,⟨A2_,c2_,h2_,s2_⟩⟩:=shr_at (ShR.mk _ _ _ HS.out M.out) HLT.out;have B_:=zk b_;have f0_:=blk_frozen b_ (n * 3);have f1_:=blk_frozen b_ (n * 3+1);have f2_:=blk_frozen b_ (n * 3+2);have S2_:=zk s2_;clear s2_;clear b_))
    go_roundg k1
    case measure=>omega
    case rel=>exact ⟨n+1,q3,za9,za18,⟨by rw [cntR_succ _ xs n HLT.out];have:=Qq3.out;have:=UP2.out;have:=Q0.out;omega⟩,⟨by have:=HN.out;omega⟩,M⟩
  ·have c3b0:decide (n < xs.length)=false:=decide_eq_false hlt
   have c3b1:decide ((n:Int) < (xs.length:Int))=false:=decide_eq_false (by omega)
   have HE:Aside0 (q0=a1+(cntR (d+1) xs:Nat)):=⟨za21⟩
   clear hlt
   go_wp2
   go_ret
   exact ⟨q0,za30,HE.out,M.out⟩
set_option maxHeartbeats 4000000 in
theorem mark_cs (lo hi:Nat) (hT:Aside0 (∀ q:Int,0≤q→q≤4611686018427387904→∃ k t,laws_markText.f k q=some t)) (d:Nat) (xs:List S46) (v:Value) (a1:Int) (W:World) (h:ShC lo hi W v xs d) (h0:0≤a1) (h1:a1+(cntC d xs:Nat)≤4611686018427387904) :
  Calls Try.prog 21 #[v,.int .i64 a1] W fun e W'=>∃ r:Int,e = .returned (.int .i64 r)∧r=a1+(cntC d xs:Nat)∧Mk lo hi W W':=by
 have HB:Aside0 (xs.length≤4611686018427387904):=⟨by have:=cntC_len d xs;omega⟩
 have HS:=zk h
 have H0:=zk h0
 have H1:=zk h1
 obtain ⟨A,c,rfl⟩:=shc_val h
 clear h h0 h1
 go_enter Try.func21,Try.ntmps21
 go_wp2
 go_loopg [1,5] xs.length (fun gk v1 v5 w'=>∃ (n:Nat) (q0:Int),v1 = .int .i64 q0∧v5 = .int .i64 (n:Int)∧Aside0 (q0=a1+(cntC d (xs.take n):Nat))∧Aside0 (n+gk=xs.length)∧Aside0 (Mk lo hi W w'))
 case atStart=>exact ⟨0,a1,rfl,rfl,⟨by simp [cntC]⟩,⟨by omega⟩,⟨Mk.refl _ _ _⟩⟩
 case round =>
  obtain ⟨n,q0,rfl,rfl,Q0,HN,M⟩:=hrel
  by_cases hlt:n < xs.length
  ·skip
   have HLT:=zk hlt
   have LE:Aside0 ((cntC d (xs.take n):Nat)+(6+cntR d xs[n].f3.f2+xs[n].f4.length:Nat)≤(cntC d xs:Nat)):=⟨cntC_le _ xs n hlt⟩
   obtain ⟨g,eA⟩:=shc_g HS.out hlt
   subst eA
   have G1:=zk (shc_at HS.out hlt).1
   have G2:=zk (shc_at HS.out hlt).2.1
   obtain ⟨_,_,⟨cs_,t_,b_⟩,⟨x0_,h0_⟩,⟨x1_,h1_⟩,⟨x2_,h2_⟩,⟨x3_,h3_⟩,⟨x4_,h4_⟩,⟨A5_,c5_,h5_,s5_⟩,⟨A6_,c6_,h6_,s6_⟩,⟨x7_,h7_⟩⟩:=shc_at (HS.out.mk M.out) HLT.out
   have B_:=zk b_
   have f0_:=blk_frozen b_ (n * 8)
   have f1_:=blk_frozen b_ (n * 8+1)
   have f2_:=blk_frozen b_ (n * 8+2)
   have f3_:=blk_frozen b_ (n * 8+3)
   have f4_:=blk_frozen b_ (n * 8+4)
   have f5_:=blk_frozen b_ (n * 8+5)
   have f6_:=blk_frozen b_ (n * 8+6)
   have f7_:=blk_frozen b_ (n * 8+7)
   have S5_:=zk s5_
   clear s5_
   have S6_:=zk s6_
   clear s6_
   clear b_
   have c3b0:decide (n < xs.length)=true:=decide_eq_true hlt
   have c3b1:decide ((n:Int) < (xs.length:Int))=true:=decide_eq_true (by omega)
   have p4:((0:Int)≤(n:Int))=True:=eq_true (by omega)
   have q4_:((n:Int) < (xs.length:Int))=True:=eq_true (by omega)
   have q5_:(n < xs.length)=True:=eq_true hlt
   have LO0:Aside0 (0≤q0):=⟨by have:=Q0.out;have:=H0.out;omega⟩
   have UP0:Aside0 (q0=a1+((cntC d (xs.take n):Nat):Int)+0):=⟨by have:=Q0.out;omega⟩
   obtain ⟨q1,hq1⟩:∃ q1,wrap64 (q0+1)=q1:=⟨_,rfl⟩
   have Q1:Aside0 (q1=q0+1):=⟨za15⟩
   have LO1:Aside0 (0≤q1):=⟨by have:=Q1.out;have:=LO0.out;omega⟩
   have UP1:Aside0 (q1=a1+((cntC d (xs.take n):Nat):Int)+1):=⟨by have:=Q1.out;have:=UP0.out;omega⟩
   obtain ⟨q2,hq2⟩:∃ q2,wrap64 (q1+1)=q2:=⟨_,rfl⟩
   have Q2:Aside0 (q2=q1+1):=⟨by rw [← hq2];exact w64n za28 za14⟩
   have LO2:Aside0 (0≤q2):=⟨by have:=Q2.out;have:=LO1.out;omega⟩
   have UP2:Aside0 (q2=a1+((cntC d (xs.take n):Nat):Int)+2):=⟨by have:=Q2.out;have:=UP1.out;omega⟩
   obtain ⟨q3,hq3⟩:∃ q3,wrap64 (q2+1)=q3:=⟨_,rfl⟩
   have Q3:Aside0 (q3=q2+1):=⟨by rw [← hq3];exact w64n (by have:=LO2.out;omega) za25⟩
   have LO3:Aside0 (0≤q3):=⟨by have:=Q3.out;have:=LO2.out;omega⟩
   have UP3:Aside0 (q3=a1+((cntC d (xs.take n):Nat):Int)+3):=⟨by have:=Q3.out;have:=UP2.out;omega⟩
   obtain ⟨q4,hq4⟩:∃ q4,wrap64 (q3+1)=q4:=⟨_,rfl⟩
   have Q4:Aside0 (q4=q3+1):=⟨by rw [← hq4];exact w64n (by have:=LO3.out;omega) (by have:=UP3.out;have:=H1.out;have:=LE.out;omega)⟩
   have LO4:Aside0 (0≤q4):=⟨by have:=Q4.out;have:=LO3.out;omega⟩
   have UP4:Aside0 (q4=a1+((cntC d (xs.take n):Nat):Int)+4):=⟨by have:=Q4.out;have:=UP3.out;omega⟩
   obtain ⟨q5,hq5⟩:∃ q5,wrap64 (q4+1)=q5:=⟨_,rfl⟩
   have Q5:Aside0 (q5=q4+1):=⟨by rw [← hq5];exact w64n (by have:=LO4.out;omega) za24⟩
   have LO5:Aside0 (0≤q5):=⟨by have:=Q5.out;have:=LO4.out;omega⟩
   have UP5:Aside0 (q5=a1+((cntC d (xs.take n):Nat):Int)+5):=⟨by have:=Q5.out;have:=UP4.out;omega⟩
   obtain ⟨n1,hn1⟩:∃ n1:Int,wrap64 ((n:Int)+1)=n1:=⟨_,rfl⟩
   have HN1:Aside0 (n1=((n+1:Nat):Int)):=⟨za20⟩
   obtain ⟨kt1,t1,T1_⟩:=hT.out q1 za28 za14
   have T1:=zk T1_
   clear T1_
   obtain ⟨kt2,t2,T2_⟩:=hT.out q2 (by have:=LO2.out;omega) za25
   have T2:=zk T2_
   clear T2_
   obtain ⟨kt4,t4,T4_⟩:=hT.out q4 (by have:=LO4.out;omega) za24
   have T4:=zk T4_
   clear T4_
   cases gk with
   | zero=>exact absurd HN.out (by omega)
   | succ k1 =>
    skip
    go_wp2_with (first
     | ((with_reducible refine gate_store (t:=3) (p:=16) rfl ?_);refine store_event (t:=3) (p:=16) (v:=?vo_16) (w1:=(wr.setCell ⟨g,n * 8,none⟩ (.int .i64 q0))) ?hg ?ho ?hn ?hr ?_;(case ho=>rfl);(case hg=>rfl);(case hn=>rfl);(case hr=>first|(go_simp;done)|(go_simp;rfl));intro w3 hw;have n1:Aside0 (Mk lo hi W w3):=⟨by rw [hw];exact M.out.trans (Mk.set B_.out G1.out G2.out h0_ (.inl ⟨_,_,rfl,rfl⟩))⟩;clear hw;clear M B_ h0_ h1_ h2_ h3_ h4_ h5_ h6_ h7_ f0_ f1_ f2_ f3_ f4_ f5_ f6_ f7_ S5_ S6_;have M:=n1;clear n1;obtain ⟨_,_,⟨cs_,t_,b_⟩,⟨x0_,h0_⟩,⟨x1_,h1_⟩,⟨x2_,h2_⟩,⟨x3_,h3_⟩,⟨x4_,h4_⟩,⟨A5_,c5_,h5_,s5_⟩,⟨A6_,c6_,h6_,s6_⟩,⟨x7_,h7_⟩⟩:=shc_at (HS.out.mk M.out) HLT.out;have B_:=zk b_;have f0_:=blk_frozen b_ (n * 8);have f1_:=blk_frozen b_ (n * 8+1);have f2_:=blk_frozen b_ (n * 8+2);have f3_:=blk_frozen b_ (n * 8+3);have f4_:=blk_frozen b_ (n * 8+4);have f5_:=blk_frozen b_ (n * 8+5);have f6_:=blk_frozen b_ (n * 8+6);have f7_:=blk_frozen b_ (n * 8+7);have S5_:=zk s5_;clear s5_;have S6_:=zk s6_;clear s6_;clear b_)
     | (go_at_call 32;(with_reducible refine (laws_markText.calls _ _ _ _ T1.out).mono ?_);rintro e w4 ⟨rfl,hb⟩;have n1:=zk (M.out.trans (Mk.below hb));clear hb;clear M B_ h0_ h1_ h2_ h3_ h4_ h5_ h6_ h7_ f0_ f1_ f2_ f3_ f4_ f5_ f6_ f7_ S5_ S6_;have M:=n1;clear n1;obtain ⟨_,_,⟨cs_,t_,b_⟩,⟨x0_,h0_⟩,⟨x1_,h1_⟩,⟨x2_,h2_⟩,⟨x3_,h3_⟩,⟨x4_,h4_⟩,⟨A5_,c5_,h5_,s5_⟩,⟨A6_,c6_,h6_,s6_⟩,⟨x7_,h7_⟩⟩:=shc_at (HS.out.mk M.out) HLT.out;have B_:=zk b_;have f0_:=blk_frozen b_ (n * 8);have f1_:=blk_frozen b_ (n * 8+1);have f2_:=blk_frozen b_ (n * 8+2);have f3_:=blk_frozen b_ (n * 8+3);have f4_:=blk_frozen b_ (n * 8+4);have f5_:=blk_frozen b_ (n * 8+5);have f6_:=blk_frozen b_ (n * 8+6);have f7_:=blk_frozen b_ (n * 8+7);have S5_:=zk s5_;clear s5_;have S6_:=zk s6_;clear s6_;clear b_)
     | ((with_reducible refine gate_store (t:=9) (p:=24) rfl ?_);refine store_event (t:=9) (p:=24) (v:=?vo_24) (w1:=(w4.setCell ⟨g,n * 8+1,none⟩ (.string t1))) ?hg ?ho ?hn ?hr ?_;(case ho=>rfl);(case hg=>rfl);(case hn=>rfl);(case hr=>first|(go_simp;done)|(go_simp;rfl));intro w5 hw;have n1:Aside0 (Mk lo hi W w5):=⟨by rw [hw];exact M.out.trans (Mk.set B_.out G1.out G2.out h1_ (.inr (.inl ⟨_,_,rfl,rfl⟩)))⟩;clear hw;clear M B_ h0_ h1_ h2_ h3_ h4_ h5_ h6_ h7_ f0_ f1_ f2_ f3_ f4_ f5_ f6_ f7_ S5_ S6_;have M:=n1;clear n1;obtain ⟨_,_,⟨cs_,t_,b_⟩,⟨x0_,h0_⟩,⟨x1_,h1_⟩,⟨x2_,h2_⟩,⟨x3_,h3_⟩,⟨x4_,h4_⟩,⟨A5_,c5_,h5_,s5_⟩,⟨A6_,c6_,h6_,s6_⟩,⟨x7_,h7_⟩⟩:=shc_at (HS.out.mk M.out) HLT.out;have B_:=zk b_;have f0_:=blk_frozen b_ (n * 8);have f1_:=blk_frozen b_ (n * 8+1);have f2_:=blk_frozen b_ (n * 8+2);have f3_:=blk_frozen b_ (n * 8+3);have f4_:=blk_frozen b_ (n * 8+4);have f5_:=blk_frozen b_ (n * 8+5);have f6_:=blk_frozen b_ (n * 8+6);have f7_:=blk_frozen b_ (n * 8+7);have S5_:=zk s5_;clear s5_;have S6_:=zk s6_;clear s6_;clear b_)
     | (go_at_call 32;(with_reducible refine (laws_markText.calls _ _ _ _ T2.out).mono ?_);rintro e w6 ⟨rfl,hb⟩;have n1:=zk (M.out.trans (Mk.below hb));clear hb;clear M B_ h0_ h1_ h2_ h3_ h4_ h5_ h6_ h7_ f0_ f1_ f2_ f3_ f4_ f5_ f6_ f7_ S5_ S6_;have M:=n1;clear n1;obtain ⟨_,_,⟨cs_,t_,b_⟩,⟨x0_,h0_⟩,⟨x1_,h1_⟩,⟨x2_,h2_⟩,⟨x3_,h3_⟩,⟨x4_,h4_⟩,⟨A5_,c5_,h5_,s5_⟩,⟨A6_,c6_,h6_,s6_⟩,⟨x7_,h7_⟩⟩:=shc_at (HS.out.mk M.out) HLT.out;have B_:=zk b_;have f0_:=blk_frozen b_ (n * 8);have f1_:=blk_frozen b_ (n * 8+1);have f2_:=blk_frozen b_ (n * 8+2);have f3_:=blk_frozen b_ (n * 8+3);have f4_:=blk_frozen b_ (n * 8+4);have f5_:=blk_frozen b_ (n * 8+5);have f6_:=blk_frozen b_ (n * 8+6);have f7_:=blk_frozen b_ (n * 8+7);have S5_:=zk s5_;clear s5_;have S6_:=zk s6_;clear s6_;clear b_)
     | ((with_reducible refine gate_store (t:=9) (p:=32) rfl ?_);refine store_event (t:=9) (p:=32) (v:=?vo_32) (w1:=(w6.setCell ⟨g,n * 8+2,none⟩ (.string t2))) ?hg ?ho ?hn ?hr ?_;(case ho=>rfl);(case hg=>rfl);(case hn=>rfl);(case hr=>first|(go_simp;done)|(go_simp;rfl));intro w7 hw;have n1:Aside0 (Mk lo hi W w7):=⟨by rw [hw];exact M.out.trans (Mk.set B_.out G1.out G2.out h2_ (.inr (.inl ⟨_,_,rfl,rfl⟩)))⟩;clear hw;clear M B_ h0_ h1_ h2_ h3_ h4_ h5_ h6_ h7_ f0_ f1_ f2_ f3_ f4_ f5_ f6_ f7_ S5_ S6_;have M:=n1;clear n1;obtain ⟨_,_,⟨cs_,t_,b_⟩,⟨x0_,h0_⟩,⟨x1_,h1_⟩,⟨x2_,h2_⟩,⟨x3_,h3_⟩,⟨x4_,h4_⟩,⟨A5_,c5_,h5_,s5_⟩,⟨A6_,c6_,h6_,s6_⟩,⟨x7_,h7_⟩⟩:=shc_at (HS.out.mk M.out) HLT.out;have B_:=zk b_;have f0_:=blk_frozen b_ (n * 8);have f1_:=blk_frozen b_ (n * 8+1);have f2_:=blk_frozen b_ (n * 8+2);have f3_:=blk_frozen b_ (n * 8+3);have f4_:=blk_frozen b_ (n * 8+4);have f5_:=blk_frozen b_ (n * 8+5);have f6_:=blk_frozen b_ (n * 8+6);have f7_:=blk_frozen b_ (n * 8+7);have S5_:=zk s5_;clear s5_;have S6_:=zk s6_;clear s6_;clear b_)
     | ((with_reducible refine gate_store (t:=3) (p:=40) rfl ?_);refine store_event (t:=3) (p:=40) (v:=?vo_40) (w1:=(w7.setCell ⟨g,n * 8+3,none⟩ (.int .i64 q3))) ?hg ?ho ?hn ?hr ?_;(case ho=>rfl);(case hg=>rfl);(case hn=>rfl);(case hr=>first|(go_simp;done)|(go_simp;rfl));intro w8 hw;have n1:Aside0 (Mk lo hi W w8):=⟨by rw [hw];exact M.out.trans (Mk.set B_.out G1.out G2.out h3_ (.inl ⟨_,_,rfl,rfl⟩))⟩;clear hw;clear M B_ h0_ h1_ h2_ h3_ h4_ h5_ h6_ h7_ f0_ f1_ f2_ f3_ f4_ f5_ f6_ f7_ S5_ S6_;have M:=n1;clear n1;obtain ⟨_,_,⟨cs_,t_,b_⟩,⟨x0_,h0_⟩,⟨x1_,h1_⟩,⟨x2_,h2_⟩,⟨x3_,h3_⟩,⟨x4_,h4_⟩,⟨A5_,c5_,h5_,s5_⟩,⟨A6_,c6_,h6_,s6_⟩,⟨x7_,h7_⟩⟩:=shc_at (HS.out.mk M.out) HLT.out;have B_:=zk b_;have f0_:=blk_frozen b_ (n * 8);have f1_:=blk_frozen b_ (n * 8+1);have f2_:=blk_frozen b_ (n * 8+2);have f3_:=blk_frozen b_ (n * 8+3);have f4_:=blk_frozen b_ (n * 8+4);have f5_:=blk_frozen b_ (n * 8+5);have f6_:=blk_frozen b_ (n * 8+6);have f7_:=blk_frozen b_ (n * 8+7);have S5_:=zk s5_;clear s5_;have S6_:=zk s6_;clear s6_;clear b_)
     | (go_at_call 32;(with_reducible refine (laws_markText.calls _ _ _ _ T4.out).mono ?_);rintro e w9 ⟨rfl,hb⟩;have n1:=zk (M.out.trans (Mk.below hb));clear hb;clear M B_ h0_ h1_ h2_ h3_ h4_ h5_ h6_ h7_ f0_ f1_ f2_ f3_ f4_ f5_ f6_ f7_ S5_ S6_;have M:=n1;clear n1;obtain ⟨_,_,⟨cs_,t_,b_⟩,⟨x0_,h0_⟩,⟨x1_,h1_⟩,⟨x2_,h2_⟩,⟨x3_,h3_⟩,⟨x4_,h4_⟩,⟨A5_,c5_,h5_,s5_⟩,⟨A6_,c6_,h6_,s6_⟩,⟨x7_,h7_⟩⟩:=shc_at (HS.out.mk M.out) HLT.out;have B_:=zk b_;have f0_:=blk_frozen b_ (n * 8);have f1_:=blk_frozen b_ (n * 8+1);have f2_:=blk_frozen b_ (n * 8+2);have f3_:=blk_frozen b_ (n * 8+3);have f4_:=blk_frozen b_ (n * 8+4);have f5_:=blk_frozen b_ (n * 8+5);have f6_:=blk_frozen b_ (n * 8+6);have f7_:=blk_frozen b_ (n * 8+7);have S5_:=zk s5_;clear s5_;have S6_:=zk s6_;clear s6_;clear b_)
     | ((with_reducible refine gate_store (t:=9) (p:=49) rfl ?_);refine store_event (t:=9) (p:=49) (v:=?vo_49) (w1:=(w9.setCell ⟨g,n * 8+4,none⟩ (.string t4))) ?hg ?ho ?hn ?hr ?_;(case ho=>rfl);(case hg=>rfl);(case hn=>rfl);(case hr=>first|(go_simp;done)|(go_simp;rfl));intro w10 hw;have n1:Aside0 (Mk lo hi W w10):=⟨by rw [hw];exact M.out.trans (Mk.set B_.out G1.out G2.out h4_ (.inr (.inl ⟨_,_,rfl,rfl⟩)))⟩;clear hw;clear M B_ h0_ h1_ h2_ h3_ h4_ h5_ h6_ h7_ f0_ f1_ f2_ f3_ f4_ f5_ f6_ f7_ S5_ S6_;have M:=n1;clear n1;obtain ⟨_,_,⟨cs_,t_,b_⟩,⟨x0_,h0_⟩,⟨x1_,h1_⟩,⟨x2_,h2_⟩,⟨x3_,h3_⟩,⟨x4_,h4_⟩,⟨A5_,c5_,h5_,s5_⟩,⟨A6_,c6_,h6_,s6_⟩,⟨x7_,h7_⟩⟩:=shc_at (HS.out.mk M.out) HLT.out;have B_:=zk b_;have f0_:=blk_frozen b_ (n * 8);have f1_:=blk_frozen b_ (n * 8+1);have f2_:=blk_frozen b_ (n * 8+2);have f3_:=blk_frozen b_ (n * 8+3);have f4_:=blk_frozen b_ (n * 8+4);have f5_:=blk_frozen b_ (n * 8+5);have f6_:=blk_frozen b_ (n * 8+6);have f7_:=blk_frozen b_ (n * 8+7);have S5_:=zk s5_;clear s5_;have S6_:=zk s6_;clear s6_;clear b_)
     | (go_at_call 33;(with_reducible refine (mark_rx lo hi hT _ _ _ q5 _ S5_.out (by have:=LO5.out;omega) (by have:=UP5.out;have:=LE.out;have:=H1.out;omega)).mono ?_);rintro e w11 ⟨q6,rfl,hq_,hm⟩;have Qq6:=zk hq_;have n1:=zk (M.out.trans hm);clear hm hq_;clear M B_ h0_ h1_ h2_ h3_ h4_ h5_ h6_ h7_ f0_ f1_ f2_ f3_ f4_ f5_ f6_ f7_ S5_ S6_;have M:=n1;clear n1;obtain ⟨_,_,⟨cs_,t_,b_⟩,⟨x0_,h0_⟩,⟨x1_,h1_⟩,⟨x2_,h2_⟩,⟨x3_,h3_⟩,⟨x4_,h4_⟩,⟨A5_,c5_,h5_,s5_⟩,⟨A6_,c6_,h6_,s6_⟩,⟨x7_,h7_⟩⟩:=shc_at (HS.out.mk M.out) HLT.out;have B_:=zk b_;have f0_:=blk_frozen b_ (n * 8);have f1_:=blk_frozen b_ (n * 8+1);have f2_:=blk_frozen b_ (n * 8+2);have f3_:=blk_frozen b_ (n * 8+3);have f4_:=blk_frozen b_ (n * 8+4);have f5_:=blk_frozen b_ (n * 8+5);have f6_:=blk_frozen b_ (n * 8+6);have f7_:=blk_frozen b_ (n * 8+7);have S5_:=zk s5_;clear s5_;have S6_:=zk s6_;clear s6_;clear b_;have LO6:Aside0 (0≤q6):=⟨by have:=Qq6.out;have:=LO5.out;omega⟩)
     | (go_at_call 34;(with_reducible refine (mark_is lo hi _ _ _ q6 S6_.out (by have:=LO6.out;omega) (by have:=Qq6.out;have:=UP5.out;have:=LE.out;have:=H1.out;omega)).mono ?_);rintro e w12 ⟨q7,rfl,hq_,hm⟩;have Qq7:=zk hq_;have n1:=zk (M.out.trans hm);clear hm hq_;clear M B_ h0_ h1_ h2_ h3_ h4_ h5_ h6_ h7_ f0_ f1_ f2_ f3_ f4_ f5_ f6_ f7_ S5_ S6_;have M:=n1;clear n1;obtain ⟨_,_,⟨cs_,t_,b_⟩,⟨x0_,h0_⟩,⟨x1_,h1_⟩,⟨x2_,h2_⟩,⟨x3_,h3_⟩,⟨x4_,h4_⟩,⟨A5_,c5_,h5_,s5_⟩,⟨A6_,c6_,h6_,s6_⟩,⟨x7_,h7_⟩⟩:=shc_at (HS.out.mk M.out) HLT.out;have B_:=zk b_;have f0_:=blk_frozen b_ (n * 8);have f1_:=blk_frozen b_ (n * 8+1);have f2_:=blk_frozen b_ (n * 8+2);have f3_:=blk_frozen b_ (n * 8+3);have f4_:=blk_frozen b_ (n * 8+4);have f5_:=blk_frozen b_ (n * 8+5);have f6_:=blk_frozen b_ (n * 8+6);have f7_:=blk_frozen b_ (n * 8+7);have S5_:=zk s5_;clear s5_;have S6_:=zk s6_;clear s6_;clear b_;obtain ⟨q8,hq8⟩:∃ q8,wrap64 (q7+1)=q8:=⟨_,rfl⟩;have Q8:Aside0 (q8=q7+1):=⟨za23⟩)
     | ((with_reducible refine gate_store (t:=3) (p:=71) rfl ?_);refine store_event (t:=3) (p:=71) (v:=?vo_71) (w1:=(w12.setCell ⟨g,n * 8+7,none⟩ (.int .i64 q7))) ?hg ?ho ?hn ?hr ?_;(case ho=>rfl);(case hg=>rfl);(case hn=>rfl);(case hr=>first|(go_simp;done)|(go_simp;rfl));intro w13 hw;have n1:Aside0 (Mk lo hi W w13):=⟨by rw [hw];exact M.out.trans (Mk.set B_.out G1.out G2.out h7_ (.inl ⟨_,_,rfl,rfl⟩))⟩;clear hw;clear M B_ h0_ h1_ h2_ h3_ h4_ h5_ h6_ h7_ f0_ f1_ f2_ f3_ f4_ f5_ f6_ f7_ S5_ S6_;have M:=n1;clear n1;obtain ⟨_,_,⟨cs_,t_,b_⟩,⟨x0_,h0_⟩,⟨x1_,h1_⟩,⟨x2_,h2_⟩,⟨x3_,h3_⟩,⟨x4_,h4_⟩,⟨A5_,c5_,h5_,s5_⟩,⟨A6_,c6_,h6_,s6_⟩,⟨x7_,h7_⟩⟩:=shc_at (HS.out.mk M.out) HLT.out;have B_:=zk b_;have f0_:=blk_frozen b_ (n * 8);have f1_:=blk_frozen b_ (n * 8+1);have f2_:=blk_frozen b_ (n * 8+2);have f3_:=blk_frozen b_ (n * 8+3);have f4_:=blk_frozen b_ (n * 8+4);have f5_:=blk_frozen b_ (n * 8+5);have f6_:=blk_frozen b_ (n * 8+6);have f7_:=blk_frozen b_ (n * 8+7);have S5_:=zk s5_;clear s5_;have S6_:=zk s6_;clear s6_;clear b_))
    go_roundg k1
    case measure=>omega
    case rel=>exact ⟨n+1,q8,za9,za18,⟨by rw [cntC_succ _ xs n HLT.out];have:=Q8.out;have:=Qq7.out;have:=Qq6.out;have:=UP5.out;have:=Q0.out;omega⟩,⟨by have:=HN.out;omega⟩,M⟩
  ·have c3b0:decide (n < xs.length)=false:=decide_eq_false hlt
   have c3b1:decide ((n:Int) < (xs.length:Int))=false:=decide_eq_false (by omega)
   have HE:Aside0 (q0=a1+(cntC d xs:Nat)):=⟨za21⟩
   clear hlt
   go_wp2
   go_ret
   exact ⟨q0,za30,HE.out,M.out⟩
set_option maxHeartbeats 1000000 in
theorem mark_problem (lo hi:Nat) (hT:Aside0 (∀ q:Int,0≤q→q≤4611686018427387904→∃ k t,laws_markText.f k q=some t)) (d:Nat) (xs:List S46) (v:Value) (a1:Int) (W:World) (hhi:hi≤W.heap.size) (h:ShC lo hi W v xs d) (h0:0≤a1) (h1:a1+(cntC d xs:Nat)≤4611686018427387904) :
  Calls Try.prog 9 #[.agg #[v],.int .i64 a1] W fun e W'=>∃ r:Int,e = .returned (.int .i64 r)∧r=a1+(cntC d xs:Nat)∧Mk lo hi W W':=by
 have HS:=zk h
 have H0:=zk h0
 have H1:=zk h1
 obtain ⟨A,c,rfl⟩:=shc_val h
 clear h h0 h1
 go_enter Try.func9,Try.ntmps9
 go_wp2_with (first
  | ((with_reducible refine gate_dst (N:=2) rfl ?_);refine zE (cs:=#[.slice A xs.length c]) (t:=28) ?_;intro gr hgr w3 hbox hb3;have M3:Aside0 (Mk lo hi W w3):=⟨Mk.below hb3⟩;obtain ⟨y0,g0⟩:=blk1 hbox;clear hb3 hbox hgr)
  | (go_at_call 21;(with_reducible refine (mark_cs lo hi hT d xs _ a1 _ (HS.out.mk M3.out) H0.out H1.out).mono ?_);rintro e w4 ⟨r,rfl,hr,hm⟩;have M4:Aside0 (Mk lo hi W w4):=⟨M3.out.trans hm⟩;have HR:=zk hr;clear hr hm))
 go_ret
 exact ⟨r,za30,HR.out,M4.out⟩
def htB:Nat→S43→Bool
 | 0,_=>false
 | d+1,x=>x.f2.all (htB d)
theorem ShR_of_R {lo hi:Nat} {W:World} (hhi:W.heap.size≤hi):∀ (d:Nat) (xs:List S43) (v:Value) (ok:Nat→Prop),xs.all (htB d)=true→Kd.R k43 43 W lo ok v xs→ShR lo hi d W v xs:=by
 intro d
 induction d with
 | zero =>
  intro xs v ok hh hR
  obtain ⟨A,c,e⟩:=Kd.R_slice hR
  cases xs with
  | nil=>exact ⟨A,c,e,rfl⟩
  | cons x xs=>simp [htB] at hh
 | succ d ih =>
  intro xs v ok hh hR
  obtain ⟨A,c,e⟩:=Kd.R_slice hR
  refine ⟨A,c,e,fun n hn=>?_⟩
  obtain ⟨g,cap,e2,g1,g2,cells,hc⟩:=Kd.R_form hR (by omega)
  subst e2
  injection e with e3 _ e4
  obtain ⟨cs,hl,hM,hcc,_⟩:=Kd.R_elem hR z43 (n:Int) (by omega) (by omega)
  rw [Int.toNat_natCast] at hM hcc
  have ex:xs.getD n z43=xs[n]:=by simp [hn]
  rw [ex] at hM
  obtain ⟨v2,rfl,hR2⟩:=k43_openM hM
  obtain ⟨A2,c2,e5⟩:=Kd.R_slice hR2
  subst e5
  have hx:xs[n].f2.all (htB d)=true:=List.all_eq_true.1 hh _ (List.getElem_mem hn)
  exact ⟨g,e3.symm,g1,Nat.lt_of_lt_of_le g2 hhi,⟨cells,_,hc⟩,⟨_,hcc 0 _ rfl⟩,⟨_,hcc 1 _ rfl⟩,A2,c2,hcc 2 _ rfl,ih _ _ _ hx hR2⟩
theorem ShI_of_R {lo hi:Nat} {W:World} (hhi:W.heap.size≤hi) (xs:List Int) (v:Value) (ok:Nat→Prop) (hR:Kd.R (Kd.int .i64) 3 W lo ok v xs):ShI lo hi W v xs.length:=by
 obtain ⟨A,c,e⟩:=Kd.R_slice hR
 refine ⟨A,c,e,fun n hn=>?_⟩
 obtain ⟨g,cap,e2,g1,g2,cells,hc⟩:=Kd.R_form hR (by omega)
 subst e2
 injection e with e3 _ e4
 obtain ⟨h1,h2⟩:=Kd.R_celln 0 hR (n:Int) (by omega) (by omega)
 exact ⟨g,e3.symm,g1,Nat.lt_of_lt_of_le g2 hhi,⟨cells,_,hc⟩,_,h1⟩
theorem ShC_of_R {lo hi:Nat} {W:World} (hhi:W.heap.size≤hi) (d:Nat) (xs:List S46) (v:Value) (ok:Nat→Prop) (hh:(xs.all fun y=>y.f3.f2.all (htB d))=true) (hR:Kd.R k46 46 W lo ok v xs):ShC lo hi W v xs d:=by
 obtain ⟨A,c,e⟩:=Kd.R_slice hR
 refine ⟨A,c,e,fun n hn=>?_⟩
 obtain ⟨g,cap,e2,g1,g2,cells,hc⟩:=Kd.R_form hR (by omega)
 subst e2
 injection e with e3 _ e4
 obtain ⟨cs,hl,hM,hcc,_⟩:=Kd.R_elem hR z46 (n:Int) (by omega) (by omega)
 rw [Int.toNat_natCast] at hM hcc
 have ex:xs.getD n z46=xs[n]:=by simp [hn]
 rw [ex] at hM
 obtain ⟨v5,v6,rfl,hR5,hR6⟩:=k46_openM hM
 obtain ⟨A5,c5,e5⟩:=Kd.R_slice hR5
 subst e5
 obtain ⟨A6,c6,e6⟩:=Kd.R_slice hR6
 subst e6
 have hx:xs[n].f3.f2.all (htB d)=true:=List.all_eq_true.1 hh _ (List.getElem_mem hn)
 exact ⟨g,e3.symm,g1,Nat.lt_of_lt_of_le g2 hhi,⟨cells,_,hc⟩,⟨_,hcc 0 _ rfl⟩,⟨_,hcc 1 _ rfl⟩,⟨_,hcc 2 _ rfl⟩,⟨_,hcc 3 _ rfl⟩,⟨_,hcc 4 _ rfl⟩,⟨A5,c5,hcc 5 _ rfl,ShR_of_R hhi d _ _ _ hx hR5⟩,⟨A6,c6,hcc 6 _ rfl,ShI_of_R hhi _ _ _ hR6⟩,⟨_,hcc 7 _ rfl⟩⟩
theorem markText_all (q:Int) (h0:0≤q) (h1:q≤4611686018427387904):∃ k t,laws_markText.f k q=some t:=by
 have hh:∀ (m:Nat) (x:Int) (acc:ByteArray),0≤x→x≤m→acc.size+x≤4611686018427387904→∃ k t,laws_markText.l0 k x acc=some t:=by
  intro m
  induction m with
  | zero =>
   intro x acc h0 h1 h2
   have e109:(⟨#[109]⟩:ByteArray).size=1:=rfl
   exact ⟨1,(⟨#[109]⟩:ByteArray) ++ acc,by simp only [laws_markText.l0];rw [if_neg (by omega),if_pos (by omega)]⟩
  | succ m ih =>
   intro x acc h0 h1 h2
   by_cases hx:x > 0
   ·have hd:Int.tdiv x 10=x / 10:=Int.tdiv_eq_ediv_of_nonneg h0
    have hs:(strOfNums [(wrap64 (48+(Int.tmod x 10))) % 256]).size=1:=by rw [strOfNums_size];rfl
    have hq:wrap64 (Int.tdiv x 10)=x / 10:=by rw [hd];exact w64n (by omega) (by omega)
    obtain ⟨k,t,ht⟩:=ih (wrap64 (Int.tdiv x 10)) (strOfNums [(wrap64 (48+(Int.tmod x 10))) % 256] ++ acc) (by rw [hq];omega) (by rw [hq];omega) (by rw [hq,ByteArray.size_append,hs];omega)
    refine ⟨k+1,t,?_⟩
    simp only [laws_markText.l0]
    rw [if_pos hx,Option.bind_some,if_pos (by rw [hs];omega)]
    exact ht
   ·have e109:(⟨#[109]⟩:ByteArray).size=1:=rfl
    exact ⟨1,(⟨#[109]⟩:ByteArray) ++ acc,by simp only [laws_markText.l0];rw [if_neg hx,if_pos (by omega)]⟩
 by_cases hq:q≤0
 ·exact ⟨0,_,by simp only [laws_markText.f];rw [if_pos hq]⟩
 ·obtain ⟨k,t,ht⟩:=hh q.toNat q (⟨#[]⟩:ByteArray) h0 (by omega) (by show ((0:Nat):Int)+q≤_;omega)
  exact ⟨k,t,by simp only [laws_markText.f];rw [if_neg hq];exact ht⟩
structure Fr (ok : Nat → Prop) (W W' : World) : Prop where
 os:W'.os=W.os
 tape:W'.tape=W.tape
 output:W'.output=W.output
 sz:W.heap.size≤W'.heap.size
 fr:∀ k,k < W.heap.size→¬ ok k→W'.heap[k]? = W.heap[k]?
section
variable {ok ok' : Nat → Prop} {W W1 W2 : World}
theorem Fr.refl (ok:Nat→Prop) (W:World):Fr ok W W:=⟨rfl,rfl,rfl,Nat.le_refl _,fun _ _ _=>rfl⟩
theorem Fr.trans (h:Fr ok W W1) (k:Fr ok W1 W2):Fr ok W W2 :=
 ⟨k.os.trans h.os,k.tape.trans h.tape,k.output.trans h.output,Nat.le_trans h.sz k.sz,fun q hq hn=>(k.fr q (Nat.lt_of_lt_of_le hq h.sz) hn).trans (h.fr q hq hn)⟩
theorem Fr.mono (h:Fr ok W W1) (hk:∀ k,ok k→ok' k):Fr ok' W W1:=⟨h.os,h.tape,h.output,h.sz,fun q hq hn=>h.fr q hq (fun q2=>hn (hk q q2))⟩
theorem Fr.below (hb:Below W.heap.size W W1):Fr ok W W1:=⟨hb.os,hb.tape,hb.output,hb.size,fun k hk _=>hb.block k hk⟩
theorem Fr.set {g i:Nat} {u:Value} (hg:ok g):Fr ok W (W.setCell ⟨g,i,none⟩ u):=by
 have hb:=(Below.refl 0 W).setCell (p:=⟨g,i,none⟩) (Nat.zero_le g) u
 exact ⟨hb.os,hb.tape,hb.output,hb.size,fun k _ hn=>Below.heap_setCell W ⟨g,i,none⟩ u k (fun e=>hn (by rw [e];exact hg))⟩
end
structure Nd (W : World) (base : Nat) (ok : Nat → Prop) (g m c : Nat) (xs : List S43) (n : Nat) (oki : Nat → Prop) (x0 : Int) (x1 : ByteArray) (v2 : Value) (ts : List S43) : Prop where
 lt:n < m
 own:ok g
 bd:∀ k,oki k→ok k∧k ≠ g
 sub:Kd.S kS 43 W base oki v2 ts
 hole:Kd.H kS 43 W base ok (.slice (some ⟨g,0,none⟩) m c) xs (n:Int) oki [.int .i64 x0,.string x1,v2]
section
variable {W W1 : World} {base g m c n : Nat} {ok oki : Nat → Prop} {xs ts ts' : List S43} {x0 : Int} {x1 : ByteArray} {v2 : Value}
theorem Nd.of_S (h:Kd.S kS 43 W base ok (.slice (some ⟨g,0,none⟩) m c) xs) (hn:n < xs.length):∃ oki v2,Nd W base ok g m c xs n oki xs[n].f0 xs[n].f1 v2 xs[n].f2:=by
 have hl:=(Kd.S_reads' h).1
 obtain ⟨oki,cs,_,hM,_,_,hb,hH⟩:=Kd.S_elem h z43 (n:Int) (by omega) (by omega)
 have e:xs.getD ((n:Int)).toNat z43=xs[n]:=by simp [List.getD_eq_getElem?_getD,List.getElem?_eq_getElem hn]
 rw [e] at hM
 obtain ⟨v2,rfl,hs⟩:=kS_openM hM
 exact ⟨oki,v2,by omega,(Kd.S_R h).1 g rfl,hb,hs,hH⟩
theorem Nd.cells (h:Nd W base ok g m c xs n oki x0 x1 v2 ts):W.cell? ⟨g,n * 3,none⟩=some (.int .i64 x0)∧W.cell? ⟨g,n * 3+1,none⟩=some (.string x1)∧W.cell? ⟨g,n * 3+2,none⟩=some v2∧∃ cs,W.heap[g]? = some (.cells cs 43 (0,0)):=by
 obtain ⟨_,_,hraw,_,_,hcc,_⟩:=Kd.H_raw h.hole (by omega) (by have:=h.lt;omega)
 exact ⟨hcc 0 _ rfl,hcc 1 _ rfl,hcc 2 _ rfl,Kd.R_typed hraw g rfl⟩
theorem Nd.set0 (h:Nd W base ok g m c xs n oki x0 x1 v2 ts) (q:Int):Nd (W.setCell ⟨g,n * 3,none⟩ (.int .i64 q)) base ok g m c xs n oki q x1 v2 ts:=by
 have hs:=(Kd.H_seg h.hole (by omega) (by have:=h.lt;omega) (seg:=[.int .i64 q]) (j:=0) (show 0+1≤3 by decide) za17).1
 exact ⟨h.lt,h.own,h.bd,Kd.S_far h.sub (fun k hk=>(h.bd k hk).2) _,hs⟩
theorem Nd.set1 (h:Nd W base ok g m c xs n oki x0 x1 v2 ts) (q:ByteArray):Nd (W.setCell ⟨g,n * 3+1,none⟩ (.string q)) base ok g m c xs n oki x0 q v2 ts:=by
 have hs:=(Kd.H_seg h.hole (by omega) (by have:=h.lt;omega) (seg:=[.string q]) (j:=1) (show 1+1≤3 by decide) za17).1
 exact ⟨h.lt,h.own,h.bd,Kd.S_far h.sub (fun k hk=>(h.bd k hk).2) _,hs⟩
theorem Nd.below (h:Nd W base ok g m c xs n oki x0 x1 v2 ts) (hb:Below W.heap.size W W1):Nd W1 base ok g m c xs n oki x0 x1 v2 ts :=
 ⟨h.lt,h.own,h.bd,Kd.S_below h.sub hb,Kd.H_below h.hole hb⟩
theorem Nd.subs (h:Nd W base ok g m c xs n oki x0 x1 v2 ts) (hf:Fr oki W W1) (hs:Kd.S kS 43 W1 base oki v2 ts'):Nd W1 base ok g m c xs n oki x0 x1 v2 ts' :=
 ⟨h.lt,h.own,h.bd,hs,Kd.H_step h.hole (fun k _ hn hlt=>hf.fr k hlt hn)⟩
theorem Nd.back (h:Nd W base ok g m c xs n oki x0 x1 v2 ts):Kd.S kS 43 W base ok (.slice (some ⟨g,0,none⟩) m c) (xs.set n ⟨x0,x1,ts⟩) :=
 Kd.H_back h.hole (x':=⟨x0,x1,ts⟩) (kS_mkM W base oki ⟨x0,x1,ts⟩ h.sub) (fun _ hk=>hk)
theorem Nd.slc (h:Nd W base ok g m c xs n oki x0 x1 v2 ts):∃ A2 c2,v2 = .slice A2 ts.length c2:=Kd.S_slice h.sub
end
def mkL (mt:Int→ByteArray) (f:Int→List S43→List S43) (cnt:List S43→Nat):Int→List S43→List S43
 | _,[] => []
 | a,x :: xs=>⟨a,mt (a+1),f (a+2) x.f2⟩ :: mkL mt f cnt (a+(2+cnt x.f2:Nat)) xs
def mkR (mt:Int→ByteArray):Nat→Int→List S43→List S43
 | 0=>fun _ xs=>xs
 | d+1=>mkL mt (mkR mt d) (cntR d)
theorem mkL_len (mt:Int→ByteArray) (f:Int→List S43→List S43) (cnt:List S43→Nat):∀ (xs:List S43) (a:Int),(mkL mt f cnt a xs).length=xs.length
 | [],_=>rfl
 | _ :: xs,_=>by simp only [mkL,List.length_cons,mkL_len mt f cnt xs]
theorem mkL_snoc (mt:Int→ByteArray) (f:Int→List S43→List S43) (cnt:List S43→Nat) (y:S43):∀ (xs:List S43) (a:Int),mkL mt f cnt a (xs ++ [y])=mkL mt f cnt a xs ++ [⟨a+((xs.map fun x=>2+cnt x.f2).sum:Nat),mt (a+((xs.map fun x=>2+cnt x.f2).sum:Nat)+1),f (a+((xs.map fun x=>2+cnt x.f2).sum:Nat)+2) y.f2⟩]
 | [],a=>by simp [mkL]
 | x :: xs,a=>by
  rw [List.cons_append,mkL,mkL,mkL_snoc mt f cnt y xs,List.cons_append,List.map_cons,List.sum_cons]
  have e:a+((2+cnt x.f2:Nat):Int)+((xs.map fun x=>2+cnt x.f2).sum:Nat)=a+((2+cnt x.f2+(xs.map fun x=>2+cnt x.f2).sum:Nat):Int):=by omega
  rw [e]
def soFar (mt:Int→ByteArray) (d:Nat) (a:Int) (xs:List S43) (n:Nat):List S43:=mkR mt (d+1) a (xs.take n) ++ xs.drop n
theorem soFar_zero (mt:Int→ByteArray) (d:Nat) (a:Int) (xs:List S43):soFar mt d a xs 0=xs:=by simp [soFar,mkR,mkL]
theorem soFar_len (mt:Int→ByteArray) (d:Nat) (a:Int) (xs:List S43) (n:Nat):(soFar mt d a xs n).length=xs.length:=by
 rw [soFar,List.length_append,mkR,mkL_len,List.length_take,List.length_drop];omega
theorem soFar_at (mt:Int→ByteArray) (d:Nat) (a:Int) (xs:List S43) (n:Nat) (h:n < xs.length) (h':n < (soFar mt d a xs n).length):(soFar mt d a xs n)[n]=xs[n]:=by
 have hl:(mkR mt (d+1) a (xs.take n)).length=n:=by rw [mkR,mkL_len,List.length_take];omega
 simp only [soFar]
 rw [List.getElem_append_right (by omega),List.getElem_drop]
 simp only [hl,Nat.sub_self,Nat.add_zero]
theorem soFar_next (mt:Int→ByteArray) (d:Nat) (a:Int) (xs:List S43) (n:Nat) (h:n < xs.length) {q:Int} (hq:q=a+(cntR (d+1) (xs.take n):Nat)) :
  (soFar mt d a xs n).set n ⟨q,mt (q+1),mkR mt d (q+2) xs[n].f2⟩=soFar mt d a xs (n+1):=by
 have hl:(mkR mt (d+1) a (xs.take n)).length=n:=by rw [mkR,mkL_len,List.length_take];omega
 have hs:=mkL_snoc mt (mkR mt d) (cntR d) xs[n] (xs.take n) a
 subst hq
 simp only [soFar]
 rw [List.set_append_right _ _ (by omega),hl,Nat.sub_self,List.drop_eq_getElem_cons h,zu,List.take_succ_eq_append_getElem h]
 show mkL mt (mkR mt d) (cntR d) a (xs.take n) ++ _=mkL mt (mkR mt d) (cntR d) a (xs.take n ++ [xs[n]]) ++ _
 rw [hs,List.append_assoc]
 rfl
set_option maxHeartbeats 4000000 in
theorem mark_sep (mt:Int→ByteArray) (hT:Aside0 (∀ q:Int,0≤q→q≤4611686018427387904→∃ k,laws_markText.f k q=some (mt q))):∀ (d:Nat) (xs:List S43) (v:Value) (a1:Int) (W:World) (base:Nat) (ok:Nat→Prop),xs.all (htB d)=true→Kd.S kS 43 W base ok v xs→0≤a1→a1+(cntR d xs:Nat)≤4611686018427387904 →
  Calls Try.prog 33 #[v,.int .i64 a1] W fun e W'=>∃ r:Int,e = .returned (.int .i64 r)∧r=a1+(cntR d xs:Nat)∧Fr ok W W'∧Kd.S kS 43 W' base ok v (mkR mt d a1 xs):=by
 intro d
 induction d with
 | zero =>
  intro xs v a1 W base ok hh h h0 h1
  have hx:xs = []:=by
   cases xs with
   | nil=>rfl
   | cons x xs=>simp [htB] at hh
  subst hx
  obtain ⟨A,c,rfl⟩:=Kd.S_slice h
  have HS:=zk h
  clear h hh
  go_enter Try.func33,Try.ntmps33
  go_wp2
  go_loopg [1,5] 0 (fun gk v1 v5 w'=>v1 = .int .i64 a1∧v5 = .int .i64 0∧w'=W)
  case atStart=>exact ⟨rfl,rfl,rfl⟩
  case round =>
   obtain ⟨rfl,rfl,rfl⟩:=hrel
   go_wp2
   go_ret
   exact ⟨a1,za30,by simp [cntR],Fr.refl _ _,HS.out⟩
 | succ d ih =>
 intro xs v a1 W base ok hh h h0 h1
 have HI:=zk ih
 have HB:Aside0 (xs.length≤4611686018427387904):=⟨by have:=cntR_len d xs;omega⟩
 have HH:=zk hh
 clear ih hh
 have HS:=zk h
 have H0:=zk h0
 have H1:=zk h1
 obtain ⟨A,c,rfl⟩:=Kd.S_slice h
 clear h h0 h1
 go_enter Try.func33,Try.ntmps33
 go_wp2
 go_loopg [1,5] xs.length (fun gk v1 v5 w'=>∃ (n:Nat) (q0:Int),v1 = .int .i64 q0∧v5 = .int .i64 (n:Int)∧Aside0 (q0=a1+(cntR (d+1) (xs.take n):Nat))∧Aside0 (n+gk=xs.length)∧Aside0 (Fr ok W w')∧Aside0 (Kd.S kS 43 w' base ok (.slice A xs.length c) (soFar mt d a1 xs n)))
 case atStart=>exact ⟨0,a1,rfl,rfl,⟨by simp [cntR]⟩,⟨by omega⟩,⟨Fr.refl _ _⟩,⟨by rw [soFar_zero];exact HS.out⟩⟩
 case round =>
  obtain ⟨n,q0,rfl,rfl,Q0,HN,M,HL⟩:=hrel
  by_cases hlt:n < xs.length
  ·skip
   have HLT:=zk hlt
   have LE:Aside0 ((cntR (d+1) (xs.take n):Nat)+(2+cntR d xs[n].f2:Nat)≤(cntR (d+1) xs:Nat)):=⟨cntR_le _ xs n hlt⟩
   have HT2:Aside0 (xs[n].f2.all (htB d)=true):=⟨List.all_eq_true.1 HH.out _ (List.getElem_mem hlt)⟩
   obtain ⟨g,cap,eA,_,_,_⟩:=Kd.S_form HL.out (by rw [soFar_len];omega)
   injection eA with e1 eN e3
   clear eN
   subst e1 e3
   obtain ⟨oki,v2,ND⟩:=Nd.of_S HL.out (n:=n) (by rw [soFar_len];exact hlt)
   rw [soFar_at mt d a1 xs n hlt] at ND
   obtain ⟨A2,c2,e2⟩:=ND.slc
   subst e2
   have D:=zk ND
   obtain ⟨h0_,h1_,h2_,cs_,b_⟩:=ND.cells
   clear ND
   have f0_:=blk_frozen b_ (n * 3)
   have f1_:=blk_frozen b_ (n * 3+1)
   have f2_:=blk_frozen b_ (n * 3+2)
   clear b_
   have c3b0:decide (n < xs.length)=true:=decide_eq_true hlt
   have c3b1:decide ((n:Int) < (xs.length:Int))=true:=decide_eq_true (by omega)
   have p4:((0:Int)≤(n:Int))=True:=eq_true (by omega)
   have q4_:((n:Int) < (xs.length:Int))=True:=eq_true (by omega)
   have q5_:(n < xs.length)=True:=eq_true hlt
   have LO0:Aside0 (0≤q0):=⟨by have:=Q0.out;have:=H0.out;omega⟩
   have UP0:Aside0 (q0=a1+((cntR (d+1) (xs.take n):Nat):Int)+0):=⟨by have:=Q0.out;omega⟩
   obtain ⟨q1,hq1⟩:∃ q1,wrap64 (q0+1)=q1:=⟨_,rfl⟩
   have Q1:Aside0 (q1=q0+1):=⟨za15⟩
   have LO1:Aside0 (0≤q1):=⟨by have:=Q1.out;have:=LO0.out;omega⟩
   have UP1:Aside0 (q1=a1+((cntR (d+1) (xs.take n):Nat):Int)+1):=⟨by have:=Q1.out;have:=UP0.out;omega⟩
   obtain ⟨q2,hq2⟩:∃ q2,wrap64 (q1+1)=q2:=⟨_,rfl⟩
   have Q2:Aside0 (q2=q1+1):=⟨by rw [← hq2];exact w64n za28 za14⟩
   have LO2:Aside0 (0≤q2):=⟨by have:=Q2.out;have:=LO1.out;omega⟩
   have UP2:Aside0 (q2=a1+((cntR (d+1) (xs.take n):Nat):Int)+2):=⟨by have:=Q2.out;have:=UP1.out;omega⟩
   obtain ⟨n1,hn1⟩:∃ n1:Int,wrap64 ((n:Int)+1)=n1:=⟨_,rfl⟩
   have HN1:Aside0 (n1=((n+1:Nat):Int)):=⟨za20⟩
   obtain ⟨kt1,T1_⟩:=hT.out q1 za28 za14
   have T1:=zk T1_
   clear T1_
   cases gk with
   | zero=>exact absurd HN.out (by omega)
   | succ k1 =>
    skip
    go_wp2_with (first
     | ((with_reducible refine gate_store (t:=3) (p:=16) rfl ?_);refine store_event (t:=3) (p:=16) (v:=?vo_16) (w1:=(wr.setCell ⟨g,n * 3,none⟩ (.int .i64 q0))) ?hg ?ho ?hn ?hr ?_;(case ho=>rfl);(case hg=>rfl);(case hn=>rfl);(case hr=>first|(go_simp;done)|(go_simp;rfl));intro w3 hw;have n1:Aside0 (Fr ok W w3):=⟨za16⟩;have n2:Aside0 (Nd w3 base ok g xs.length c (soFar mt d a1 xs n) n oki q0 xs[n].f1 (.slice A2 xs[n].f2.length c2) xs[n].f2):=⟨by rw [hw];exact D.out.set0 q0⟩;clear hw;clear M D h0_ h1_ h2_ f0_ f1_ f2_;have M:=n1;have D:=n2;clear n1 n2;obtain ⟨h0_,h1_,h2_,cs_,b_⟩:=D.out.cells;have f0_:=blk_frozen b_ (n * 3);have f1_:=blk_frozen b_ (n * 3+1);have f2_:=blk_frozen b_ (n * 3+2);clear b_)
     | (go_at_call 32;(with_reducible refine (laws_markText.calls _ _ _ _ T1.out).mono ?_);rintro e w4 ⟨rfl,hb⟩;have n1:=zk (M.out.trans (Fr.below hb));have n2:=zk (D.out.below hb);clear hb;clear M D h0_ h1_ h2_ f0_ f1_ f2_;have M:=n1;have D:=n2;clear n1 n2;obtain ⟨h0_,h1_,h2_,cs_,b_⟩:=D.out.cells;have f0_:=blk_frozen b_ (n * 3);have f1_:=blk_frozen b_ (n * 3+1);have f2_:=blk_frozen b_ (n * 3+2);clear b_)
     | ((with_reducible refine gate_store (t:=9) (p:=24) rfl ?_);refine store_event (t:=9) (p:=24) (v:=?vo_24) (w1:=(w4.setCell ⟨g,n * 3+1,none⟩ (.string (mt q1)))) ?hg ?ho ?hn ?hr ?_;(case ho=>rfl);(case hg=>rfl);(case hn=>rfl);(case hr=>first|(go_simp;done)|(go_simp;rfl));intro w5 hw;have n1:Aside0 (Fr ok W w5):=⟨za16⟩;have n2:Aside0 (Nd w5 base ok g xs.length c (soFar mt d a1 xs n) n oki q0 (mt q1) (.slice A2 xs[n].f2.length c2) xs[n].f2):=⟨by rw [hw];exact D.out.set1 (mt q1)⟩;clear hw;clear M D h0_ h1_ h2_ f0_ f1_ f2_;have M:=n1;have D:=n2;clear n1 n2;obtain ⟨h0_,h1_,h2_,cs_,b_⟩:=D.out.cells;have f0_:=blk_frozen b_ (n * 3);have f1_:=blk_frozen b_ (n * 3+1);have f2_:=blk_frozen b_ (n * 3+2);clear b_)
     | (go_at_call 33;(with_reducible refine (HI.out _ _ q2 _ base oki HT2.out D.out.sub (by have:=LO2.out;omega) (by have:=UP2.out;have:=LE.out;have:=H1.out;omega)).mono ?_);rintro e w6 ⟨q3,rfl,hq_,hf,hs⟩;have Qq3:=zk hq_;have n1:=zk (M.out.trans (hf.mono (fun k hk=>(D.out.bd k hk).1)));have n2:=zk (D.out.subs hf hs);clear hf hs hq_;clear M D h0_ h1_ h2_ f0_ f1_ f2_;have M:=n1;have D:=n2;clear n1 n2))
    go_roundg k1
    case measure=>omega
    case rel=>exact ⟨n+1,q3,za9,za18,⟨by rw [cntR_succ _ xs n HLT.out];have:=Qq3.out;have:=UP2.out;have:=Q0.out;omega⟩,⟨by have:=HN.out;omega⟩,M,⟨by rw [← soFar_next mt d a1 xs n HLT.out Q0.out,show q0+1=q1 by rw [Q1.out],show q0+2=q2 by rw [Q2.out,Q1.out];omega];exact D.out.back⟩⟩
  ·have c3b0:decide (n < xs.length)=false:=decide_eq_false hlt
   have c3b1:decide ((n:Int) < (xs.length:Int))=false:=decide_eq_false (by omega)
   have HE:Aside0 (q0=a1+(cntR (d+1) xs:Nat)):=⟨za21⟩
   have HL2:Aside0 (Kd.S kS 43 wr base ok (.slice A xs.length c) (mkR mt (d+1) a1 xs)):=⟨by have:=HL.out;rw [soFar,List.take_of_length_le (by omega),List.drop_of_length_le (by omega),List.append_nil] at this;exact this⟩
   clear hlt
   go_wp2
   go_ret
   exact ⟨q0,za30,HE.out,M.out,HL2.out⟩
def soFarI (a:Int) (l:List Int) (n:Nat):List Int:=(List.range n).map (fun i:Nat=>a+(i:Int)) ++ l.drop n
theorem soFarI_len (a:Int) (l:List Int) (n:Nat) (h:n≤l.length):(soFarI a l n).length=l.length:=by simp [soFarI];omega
theorem soFarI_next (a:Int) (l:List Int) (n:Nat) (h:n < l.length):(soFarI a l n).set n (a+(n:Int))=soFarI a l (n+1):=by
 simp only [soFarI]
 rw [List.set_append_right _ _ (by simp),List.length_map,List.length_range,Nat.sub_self,List.drop_eq_getElem_cons h,zu,List.range_succ,List.map_append,List.append_assoc]
 rfl
set_option maxHeartbeats 4000000 in
theorem mark_ints (l:List Int) (v:Value) (W:World) (base:Nat) (ok:Nat→Prop) (a1:Int) (h:Kd.R (Kd.int .i64) 3 W base ok v l) (h0:0≤a1) (h1:a1+l.length≤4611686018427387904) :
  Calls Try.prog 34 #[v,.int .i64 a1] W fun e W'=>∃ r:Int,e = .returned (.int .i64 r)∧r=a1+l.length∧Fr (fun k=>some k=v.ownBlock) W W'∧Kd.R (Kd.int .i64) 3 W' base ok v (soFarI a1 l l.length):=by
 have HS:=zk h
 obtain ⟨A,c,rfl⟩:=Kd.R_slice h
 have H0:=zk h0
 have H1:=zk h1
 clear h h0 h1
 go_enter Try.func34,Try.ntmps34
 go_wp2
 go_loopg [1,5] l.length (fun gk v1 v5 w'=>∃ (n:Nat) (q:Int),v1 = .int .i64 q∧v5 = .int .i64 (n:Int)∧Aside0 (q=a1+n)∧Aside0 (n+gk=l.length)∧Aside0 (Fr (fun k=>some k=(Value.slice A l.length c).ownBlock) W w')∧Aside0 (Kd.R (Kd.int .i64) 3 w' base ok (.slice A l.length c) (soFarI a1 l n)))
 case atStart=>exact ⟨0,a1,rfl,rfl,⟨by simp⟩,⟨by omega⟩,⟨Fr.refl _ _⟩,⟨by simpa [soFarI] using HS.out⟩⟩
 case round =>
  obtain ⟨n,q,rfl,rfl,HQ,HN,M,HL⟩:=hrel
  by_cases hlt:n < l.length
  ·obtain ⟨g,cap,eA,_,_,cs,hb⟩:=Kd.R_form HL.out (by rw [soFarI_len _ _ _ (by omega)];omega)
   injection eA with e1 eN e3
   clear eN
   subst e1 e3
   have hl:=soFarI_len a1 l n (by omega)
   obtain ⟨hx,hf⟩:=Kd.R_celln 0 HL.out (n:Int) (by omega) (by omega)
   have HP:Aside0 (Kd.R (Kd.int .i64) 3 (wr.setCell ⟨g,n,none⟩ (.int .i64 q)) base ok (.slice (some ⟨g,0,none⟩) l.length c) (soFarI a1 l (n+1))):=⟨by rw [← soFarI_next a1 l n hlt,← HQ.out];exact (Kd.R_putg HL.out (n:Int) q).1⟩
   rw [Int.toNat_natCast] at hx hf
   have hx:∃ x,wr.cell? ⟨g,n,none⟩=some (.int .i64 x):=⟨_,hx⟩
   obtain ⟨x,hx⟩:=hx
   have c3b0:decide (n < l.length)=true:=decide_eq_true hlt
   have c3b1:decide ((n:Int) < (l.length:Int))=true:=decide_eq_true (by omega)
   have p4:((0:Int)≤(n:Int))=True:=eq_true (by omega)
   have q4:((n:Int) < (l.length:Int))=True:=eq_true (by omega)
   have q5:(n < l.length)=True:=eq_true hlt
   obtain ⟨q1,hq1⟩:∃ q1,wrap64 (q+1)=q1:=⟨_,rfl⟩
   have HQ1:Aside0 (q1=a1+((n+1:Nat):Int)):=⟨by rw [← hq1,w64n (by have:=HQ.out;have:=H0.out;omega) (by have:=HQ.out;have:=H1.out;omega)];have:=HQ.out;omega⟩
   obtain ⟨n1,hn1⟩:∃ n1:Int,wrap64 ((n:Int)+1)=n1:=⟨_,rfl⟩
   have HN1:Aside0 (n1=((n+1:Nat):Int)):=⟨by rw [← hn1,w64n (by omega) (by have:=H0.out;have:=H1.out;omega)];omega⟩
   cases gk with
   | zero=>exact absurd HN.out (by omega)
   | succ k1 =>
    clear hb hl hlt
    go_wp2_with ((with_reducible refine gate_store (t:=3) (p:=15) rfl ?_);refine store_event (t:=3) (p:=15) (v:=?vo) (w1:=(wr.setCell ⟨g,n,none⟩ (.int .i64 q))) ?hg ?ho ?hn ?hr ?_;(case ho=>rfl);(case hg=>rfl);(case hn=>rfl);(case hr=>first|(go_simp;done)|(go_simp;rfl));intro w3 hw;have M3:Aside0 (Fr (fun k=>some k=(Value.slice (some ⟨g,0,none⟩) l.length c).ownBlock) W w3):=⟨by rw [hw];exact M.out.trans (Fr.set rfl)⟩;have HL3:Aside0 (Kd.R (Kd.int .i64) 3 w3 base ok (.slice (some ⟨g,0,none⟩) l.length c) (soFarI a1 l (n+1))):=⟨by rw [hw];exact HP.out⟩;clear hw hx hf HP)
    go_roundg k1
    case measure=>omega
    case rel=>exact ⟨n+1,q1,by first|rfl|(rw [hq1];done)|(simp [*];done),za18,HQ1,⟨by have:=HN.out;omega⟩,M3,HL3⟩
  ·have c3b0:decide (n < l.length)=false:=decide_eq_false hlt
   have c3b1:decide ((n:Int) < (l.length:Int))=false:=decide_eq_false (by omega)
   have HE:Aside0 (q=a1+(l.length:Int)):=⟨by have:=HQ.out;have:=HN.out;omega⟩
   have HL2:Aside0 (Kd.R (Kd.int .i64) 3 wr base ok (.slice A l.length c) (soFarI a1 l l.length)):=⟨by have:=HL.out;rw [show n=l.length by have:=HN.out;omega] at this;exact this⟩
   clear hlt
   go_wp2
   go_ret
   exact ⟨q,za30,HE.out,M.out,HL2.out⟩
-- CONSTRAINTS
structure NdC (W : World) (base : Nat) (ok : Nat → Prop) (g m c : Nat) (xs : List S46) (n : Nat) (oki : Nat → Prop) (x0 : Int) (x1 x2 : ByteArray) (x3 : Int) (x4 : ByteArray) (v5 : Value) (ts : List S43) (v6 : Value) (is : List Int) (x7 : Int) : Prop where
 lt:n < m
 own:ok g
 bd:∀ k,oki k→ok k∧k ≠ g
 sub5:Kd.S kS 43 W base (fun k=>oki k∧some k ≠ v6.ownBlock) v5 ts
 sub6:Kd.R (Kd.int .i64) 3 W base oki v6 is
 hole:Kd.H kCS 46 W base ok (.slice (some ⟨g,0,none⟩) m c) xs (n:Int) oki [.int .i64 x0,.string x1,.string x2,.int .i64 x3,.string x4,v5,v6,.int .i64 x7]
section
variable {W W1 : World} {base g m c n : Nat} {ok oki : Nat → Prop} {xs : List S46} {ts ts' : List S43} {is is' : List Int} {x0 x3 x7 : Int} {x1 x2 x4 : ByteArray} {v5 v6 : Value}
theorem NdC.own6 (h:NdC W base ok g m c xs n oki x0 x1 x2 x3 x4 v5 ts v6 is x7):∀ k,some k=v6.ownBlock→ok k:=fun k hk=>(h.bd k (h.sub6.1 k hk.symm)).1
theorem NdC.of_S (h:Kd.S kCS 46 W base ok (.slice (some ⟨g,0,none⟩) m c) xs) (hn:n < xs.length):∃ oki v5 v6,NdC W base ok g m c xs n oki xs[n].f0 xs[n].f1 xs[n].f2 xs[n].f3.f0 xs[n].f3.f1 v5 xs[n].f3.f2 v6 xs[n].f4 xs[n].f5:=by
 have hl:=(Kd.S_reads' h).1
 obtain ⟨oki,cs,_,hM,_,_,hb,hH⟩:=Kd.S_elem h z46 (n:Int) (by omega) (by omega)
 have e:xs.getD ((n:Int)).toNat z46=xs[n]:=by simp [List.getD_eq_getElem?_getD,List.getElem?_eq_getElem hn]
 rw [e] at hM
 obtain ⟨v5,v6,rfl,g5,g6⟩:=kCS_openM hM
 exact ⟨oki,v5,v6,by omega,(Kd.S_R h).1 g rfl,hb,Kd.S_apart' g5 (Kd.R_typed g6) (by decide),g6,hH⟩
theorem NdC.cells (h:NdC W base ok g m c xs n oki x0 x1 x2 x3 x4 v5 ts v6 is x7):W.cell? ⟨g,n * 8,none⟩=some (.int .i64 x0)∧W.cell? ⟨g,n * 8+1,none⟩=some (.string x1)∧W.cell? ⟨g,n * 8+2,none⟩=some (.string x2)∧W.cell? ⟨g,n * 8+3,none⟩=some (.int .i64 x3)∧W.cell? ⟨g,n * 8+4,none⟩=some (.string x4)∧W.cell? ⟨g,n * 8+5,none⟩=some (v5)∧W.cell? ⟨g,n * 8+6,none⟩=some (v6)∧W.cell? ⟨g,n * 8+7,none⟩=some (.int .i64 x7)∧∃ cs,W.heap[g]? = some (.cells cs 46 (0,0)):=by
 obtain ⟨_,_,hraw,_,_,hcc,_⟩:=Kd.H_raw h.hole (by omega) (by have:=h.lt;omega)
 exact ⟨hcc 0 _ rfl,hcc 1 _ rfl,hcc 2 _ rfl,hcc 3 _ rfl,hcc 4 _ rfl,hcc 5 _ rfl,hcc 6 _ rfl,hcc 7 _ rfl,Kd.R_typed hraw g rfl⟩
theorem NdC.set0 (h:NdC W base ok g m c xs n oki x0 x1 x2 x3 x4 v5 ts v6 is x7) (q:Int):NdC (W.setCell ⟨g,n * 8,none⟩ (.int .i64 q)) base ok g m c xs n oki q x1 x2 x3 x4 v5 ts v6 is x7:=by
 have hs:=(Kd.H_seg h.hole (by omega) (by have:=h.lt;omega) (seg:=[.int .i64 q]) (j:=0) (show 0+1≤8 by decide) za17).1
 exact ⟨h.lt,h.own,h.bd,Kd.S_far h.sub5 (fun k hk=>(h.bd k hk.1).2) _,Kd.R_far h.sub6 (fun k hk=>(h.bd k hk).2) _,hs⟩
theorem NdC.set1 (h:NdC W base ok g m c xs n oki x0 x1 x2 x3 x4 v5 ts v6 is x7) (q:ByteArray):NdC (W.setCell ⟨g,n * 8+1,none⟩ (.string q)) base ok g m c xs n oki x0 q x2 x3 x4 v5 ts v6 is x7:=by
 have hs:=(Kd.H_seg h.hole (by omega) (by have:=h.lt;omega) (seg:=[.string q]) (j:=1) (show 1+1≤8 by decide) za17).1
 exact ⟨h.lt,h.own,h.bd,Kd.S_far h.sub5 (fun k hk=>(h.bd k hk.1).2) _,Kd.R_far h.sub6 (fun k hk=>(h.bd k hk).2) _,hs⟩
theorem NdC.set2 (h:NdC W base ok g m c xs n oki x0 x1 x2 x3 x4 v5 ts v6 is x7) (q:ByteArray):NdC (W.setCell ⟨g,n * 8+2,none⟩ (.string q)) base ok g m c xs n oki x0 x1 q x3 x4 v5 ts v6 is x7:=by
 have hs:=(Kd.H_seg h.hole (by omega) (by have:=h.lt;omega) (seg:=[.string q]) (j:=2) (show 2+1≤8 by decide) za17).1
 exact ⟨h.lt,h.own,h.bd,Kd.S_far h.sub5 (fun k hk=>(h.bd k hk.1).2) _,Kd.R_far h.sub6 (fun k hk=>(h.bd k hk).2) _,hs⟩
theorem NdC.set3 (h:NdC W base ok g m c xs n oki x0 x1 x2 x3 x4 v5 ts v6 is x7) (q:Int):NdC (W.setCell ⟨g,n * 8+3,none⟩ (.int .i64 q)) base ok g m c xs n oki x0 x1 x2 q x4 v5 ts v6 is x7:=by
 have hs:=(Kd.H_seg h.hole (by omega) (by have:=h.lt;omega) (seg:=[.int .i64 q]) (j:=3) (show 3+1≤8 by decide) za17).1
 exact ⟨h.lt,h.own,h.bd,Kd.S_far h.sub5 (fun k hk=>(h.bd k hk.1).2) _,Kd.R_far h.sub6 (fun k hk=>(h.bd k hk).2) _,hs⟩
theorem NdC.set4 (h:NdC W base ok g m c xs n oki x0 x1 x2 x3 x4 v5 ts v6 is x7) (q:ByteArray):NdC (W.setCell ⟨g,n * 8+4,none⟩ (.string q)) base ok g m c xs n oki x0 x1 x2 x3 q v5 ts v6 is x7:=by
 have hs:=(Kd.H_seg h.hole (by omega) (by have:=h.lt;omega) (seg:=[.string q]) (j:=4) (show 4+1≤8 by decide) za17).1
 exact ⟨h.lt,h.own,h.bd,Kd.S_far h.sub5 (fun k hk=>(h.bd k hk.1).2) _,Kd.R_far h.sub6 (fun k hk=>(h.bd k hk).2) _,hs⟩
theorem NdC.set7 (h:NdC W base ok g m c xs n oki x0 x1 x2 x3 x4 v5 ts v6 is x7) (q:Int):NdC (W.setCell ⟨g,n * 8+7,none⟩ (.int .i64 q)) base ok g m c xs n oki x0 x1 x2 x3 x4 v5 ts v6 is q:=by
 have hs:=(Kd.H_seg h.hole (by omega) (by have:=h.lt;omega) (seg:=[.int .i64 q]) (j:=7) (show 7+1≤8 by decide) za17).1
 exact ⟨h.lt,h.own,h.bd,Kd.S_far h.sub5 (fun k hk=>(h.bd k hk.1).2) _,Kd.R_far h.sub6 (fun k hk=>(h.bd k hk).2) _,hs⟩
theorem NdC.below (h:NdC W base ok g m c xs n oki x0 x1 x2 x3 x4 v5 ts v6 is x7) (hb:Below W.heap.size W W1):NdC W1 base ok g m c xs n oki x0 x1 x2 x3 x4 v5 ts v6 is x7 :=
 ⟨h.lt,h.own,h.bd,Kd.S_below h.sub5 hb,Kd.R_below h.sub6 hb,Kd.H_below h.hole hb⟩
theorem NdC.subs5 (h:NdC W base ok g m c xs n oki x0 x1 x2 x3 x4 v5 ts v6 is x7) (hf:Fr (fun k=>oki k∧some k ≠ v6.ownBlock) W W1) (hs:Kd.S kS 43 W1 base (fun k=>oki k∧some k ≠ v6.ownBlock) v5 ts'):NdC W1 base ok g m c xs n oki x0 x1 x2 x3 x4 v5 ts' v6 is x7 :=
 ⟨h.lt,h.own,h.bd,hs,Kd.R_mono (Kd.R_step (Kd.R_tight rfl h.sub6) (fun k hk hlt=>hf.fr k hlt (fun q=>q.2 hk))) (fun k hk=>h.sub6.1 k hk.symm),Kd.H_step h.hole (fun k _ hn hlt=>hf.fr k hlt (fun q=>hn q.1))⟩
theorem NdC.subs6 (h:NdC W base ok g m c xs n oki x0 x1 x2 x3 x4 v5 ts v6 is x7) (hf:Fr (fun k=>some k=v6.ownBlock) W W1) (hs:Kd.R (Kd.int .i64) 3 W1 base oki v6 is'):NdC W1 base ok g m c xs n oki x0 x1 x2 x3 x4 v5 ts v6 is' x7 :=
 ⟨h.lt,h.own,h.bd,Kd.S_step h.sub5 (fun k hk hlt=>hf.fr k hlt (fun q=>hk.2 q)),hs,Kd.H_step h.hole (fun k _ hn hlt=>hf.fr k hlt (fun q=>hn (h.sub6.1 k q.symm)))⟩
theorem NdC.back (h:NdC W base ok g m c xs n oki x0 x1 x2 x3 x4 v5 ts v6 is x7):Kd.S kCS 46 W base ok (.slice (some ⟨g,0,none⟩) m c) (xs.set n ⟨x0,x1,x2,⟨x3,x4,ts⟩,is,x7⟩) :=
 Kd.H_back h.hole (x':=⟨x0,x1,x2,⟨x3,x4,ts⟩,is,x7⟩) (kCS_mkM W base oki ⟨x0,x1,x2,⟨x3,x4,ts⟩,is,x7⟩ (Kd.S_mono h.sub5 (fun _ hk=>hk.1)) h.sub6) (fun _ hk=>hk)
end
def mkC (mt:Int→ByteArray) (d:Nat) (a:Int) (x:S46):S46:=⟨a,mt (a+1),mt (a+2),⟨a+3,mt (a+4),mkR mt d (a+5) x.f3.f2⟩,soFarI (a+5+(cntR d x.f3.f2:Nat)) x.f4 x.f4.length,a+5+(cntR d x.f3.f2:Nat)+(x.f4.length:Nat)⟩
def mkCs (mt:Int→ByteArray) (d:Nat):Int→List S46→List S46
 | _,[] => []
 | a,x :: xs=>mkC mt d a x :: mkCs mt d (a+(6+cntR d x.f3.f2+x.f4.length:Nat)) xs
theorem mkCs_len (mt:Int→ByteArray) (d:Nat):∀ (xs:List S46) (a:Int),(mkCs mt d a xs).length=xs.length
 | [],_=>rfl
 | _ :: xs,_=>by simp only [mkCs,List.length_cons,mkCs_len mt d xs]
theorem mkCs_snoc (mt:Int→ByteArray) (d:Nat) (y:S46):∀ (xs:List S46) (a:Int),mkCs mt d a (xs ++ [y])=mkCs mt d a xs ++ [mkC mt d (a+(cntC d xs:Nat)) y]
 | [],a=>by simp [mkCs,cntC]
 | x :: xs,a=>by
  rw [List.cons_append,mkCs,mkCs,mkCs_snoc mt d y xs,List.cons_append]
  have e:a+((6+cntR d x.f3.f2+x.f4.length:Nat):Int)+(cntC d xs:Nat)=a+(cntC d (x :: xs):Nat):=by simp only [cntC,List.map_cons,List.sum_cons];omega
  rw [e]
def soFarC (mt:Int→ByteArray) (d:Nat) (a:Int) (xs:List S46) (n:Nat):List S46:=mkCs mt d a (xs.take n) ++ xs.drop n
theorem soFarC_zero (mt:Int→ByteArray) (d:Nat) (a:Int) (xs:List S46):soFarC mt d a xs 0=xs:=by simp [soFarC,mkCs]
theorem soFarC_len (mt:Int→ByteArray) (d:Nat) (a:Int) (xs:List S46) (n:Nat):(soFarC mt d a xs n).length=xs.length:=by
 rw [soFarC,List.length_append,mkCs_len,List.length_take,List.length_drop];omega
theorem soFarC_at (mt:Int→ByteArray) (d:Nat) (a:Int) (xs:List S46) (n:Nat) (h:n < xs.length) (h':n < (soFarC mt d a xs n).length):(soFarC mt d a xs n)[n]=xs[n]:=by
 have hl:(mkCs mt d a (xs.take n)).length=n:=by rw [mkCs_len,List.length_take];omega
 simp only [soFarC]
 rw [List.getElem_append_right (by omega),List.getElem_drop]
 simp only [hl,Nat.sub_self,Nat.add_zero]
theorem soFarC_next (mt:Int→ByteArray) (d:Nat) (a:Int) (xs:List S46) (n:Nat) (h:n < xs.length) {q:Int} (hq:q=a+(cntC d (xs.take n):Nat)) :
  (soFarC mt d a xs n).set n (mkC mt d q xs[n])=soFarC mt d a xs (n+1):=by
 have hl:(mkCs mt d a (xs.take n)).length=n:=by rw [mkCs_len,List.length_take];omega
 subst hq
 simp only [soFarC]
 rw [List.set_append_right _ _ (by omega),hl,Nat.sub_self,List.drop_eq_getElem_cons h,zu,List.take_succ_eq_append_getElem h,mkCs_snoc,List.append_assoc]
 rfl
set_option maxHeartbeats 4000000 in
theorem mark_cons (mt:Int→ByteArray) (hT:Aside0 (∀ q:Int,0≤q→q≤4611686018427387904→∃ k,laws_markText.f k q=some (mt q))) (d:Nat) (xs:List S46) (v:Value) (a1:Int) (W:World) (base:Nat) (ok:Nat→Prop) (hh:(xs.all fun y=>y.f3.f2.all (htB d))=true) (h:Kd.S kCS 46 W base ok v xs) (h0:0≤a1) (h1:a1+(cntC d xs:Nat)≤4611686018427387904) :
  Calls Try.prog 21 #[v,.int .i64 a1] W fun e W'=>∃ r:Int,e = .returned (.int .i64 r)∧r=a1+(cntC d xs:Nat)∧Fr ok W W'∧Kd.S kCS 46 W' base ok v (mkCs mt d a1 xs):=by
 have HB:Aside0 (xs.length≤4611686018427387904):=⟨by have:=cntC_len d xs;omega⟩
 have HS:=zk h
 have H0:=zk h0
 have H1:=zk h1
 obtain ⟨A,c,rfl⟩:=Kd.S_slice h
 have HH:=zk hh
 clear h h0 h1 hh
 go_enter Try.func21,Try.ntmps21
 go_wp2
 go_loopg [1,5] xs.length (fun gk v1 v5 w'=>∃ (n:Nat) (q0:Int),v1 = .int .i64 q0∧v5 = .int .i64 (n:Int)∧Aside0 (q0=a1+(cntC d (xs.take n):Nat))∧Aside0 (n+gk=xs.length)∧Aside0 (Fr ok W w')∧Aside0 (Kd.S kCS 46 w' base ok (.slice A xs.length c) (soFarC mt d a1 xs n)))
 case atStart=>exact ⟨0,a1,rfl,rfl,⟨by simp [cntC]⟩,⟨by omega⟩,⟨Fr.refl _ _⟩,⟨by rw [soFarC_zero];exact HS.out⟩⟩
 case round =>
  obtain ⟨n,q0,rfl,rfl,Q0,HN,M,HL⟩:=hrel
  by_cases hlt:n < xs.length
  ·skip
   have HLT:=zk hlt
   have LE:Aside0 ((cntC d (xs.take n):Nat)+(6+cntR d xs[n].f3.f2+xs[n].f4.length:Nat)≤(cntC d xs:Nat)):=⟨cntC_le _ xs n hlt⟩
   have HT2:Aside0 (xs[n].f3.f2.all (htB d)=true):=⟨List.all_eq_true.1 HH.out _ (List.getElem_mem hlt)⟩
   obtain ⟨g,cap,eA,_,_,_⟩:=Kd.S_form HL.out (by rw [soFarC_len];omega)
   injection eA with e1 eN e3
   clear eN
   subst e1 e3
   obtain ⟨oki,v5,v6,ND⟩:=NdC.of_S HL.out (n:=n) (by rw [soFarC_len];exact hlt)
   rw [soFarC_at mt d a1 xs n hlt] at ND
   obtain ⟨A5,c5,e5⟩:=Kd.S_slice ND.sub5
   subst e5
   obtain ⟨A6,c6,e6⟩:=Kd.R_slice ND.sub6
   subst e6
   have D:=zk ND
   clear ND
   obtain ⟨h0_,h1_,h2_,h3_,h4_,h5_,h6_,h7_,cs_,b_⟩:=D.out.cells
   have f0_:=blk_frozen b_ (n * 8)
   have f1_:=blk_frozen b_ (n * 8+1)
   have f2_:=blk_frozen b_ (n * 8+2)
   have f3_:=blk_frozen b_ (n * 8+3)
   have f4_:=blk_frozen b_ (n * 8+4)
   have f5_:=blk_frozen b_ (n * 8+5)
   have f6_:=blk_frozen b_ (n * 8+6)
   have f7_:=blk_frozen b_ (n * 8+7)
   clear b_
   have c3b0:decide (n < xs.length)=true:=decide_eq_true hlt
   have c3b1:decide ((n:Int) < (xs.length:Int))=true:=decide_eq_true (by omega)
   have p4:((0:Int)≤(n:Int))=True:=eq_true (by omega)
   have q4_:((n:Int) < (xs.length:Int))=True:=eq_true (by omega)
   have q5_:(n < xs.length)=True:=eq_true hlt
   have LO0:Aside0 (0≤q0):=⟨by have:=Q0.out;have:=H0.out;omega⟩
   have UP0:Aside0 (q0=a1+((cntC d (xs.take n):Nat):Int)+0):=⟨by have:=Q0.out;omega⟩
   obtain ⟨q1,hq1⟩:∃ q1,wrap64 (q0+1)=q1:=⟨_,rfl⟩
   have Q1:Aside0 (q1=q0+1):=⟨za15⟩
   have LO1:Aside0 (0≤q1):=⟨by have:=Q1.out;have:=LO0.out;omega⟩
   have UP1:Aside0 (q1=a1+((cntC d (xs.take n):Nat):Int)+1):=⟨by have:=Q1.out;have:=UP0.out;omega⟩
   obtain ⟨q2,hq2⟩:∃ q2,wrap64 (q1+1)=q2:=⟨_,rfl⟩
   have Q2:Aside0 (q2=q1+1):=⟨by rw [← hq2];exact w64n za28 za14⟩
   have LO2:Aside0 (0≤q2):=⟨by have:=Q2.out;have:=LO1.out;omega⟩
   have UP2:Aside0 (q2=a1+((cntC d (xs.take n):Nat):Int)+2):=⟨by have:=Q2.out;have:=UP1.out;omega⟩
   obtain ⟨q3,hq3⟩:∃ q3,wrap64 (q2+1)=q3:=⟨_,rfl⟩
   have Q3:Aside0 (q3=q2+1):=⟨by rw [← hq3];exact w64n (by have:=LO2.out;omega) za25⟩
   have LO3:Aside0 (0≤q3):=⟨by have:=Q3.out;have:=LO2.out;omega⟩
   have UP3:Aside0 (q3=a1+((cntC d (xs.take n):Nat):Int)+3):=⟨by have:=Q3.out;have:=UP2.out;omega⟩
   obtain ⟨q4,hq4⟩:∃ q4,wrap64 (q3+1)=q4:=⟨_,rfl⟩
   have Q4:Aside0 (q4=q3+1):=⟨by rw [← hq4];exact w64n (by have:=LO3.out;omega) (by have:=UP3.out;have:=H1.out;have:=LE.out;omega)⟩
   have LO4:Aside0 (0≤q4):=⟨by have:=Q4.out;have:=LO3.out;omega⟩
   have UP4:Aside0 (q4=a1+((cntC d (xs.take n):Nat):Int)+4):=⟨by have:=Q4.out;have:=UP3.out;omega⟩
   obtain ⟨q5,hq5⟩:∃ q5,wrap64 (q4+1)=q5:=⟨_,rfl⟩
   have Q5:Aside0 (q5=q4+1):=⟨by rw [← hq5];exact w64n (by have:=LO4.out;omega) za24⟩
   have LO5:Aside0 (0≤q5):=⟨by have:=Q5.out;have:=LO4.out;omega⟩
   have UP5:Aside0 (q5=a1+((cntC d (xs.take n):Nat):Int)+5):=⟨by have:=Q5.out;have:=UP4.out;omega⟩
   obtain ⟨n1,hn1⟩:∃ n1:Int,wrap64 ((n:Int)+1)=n1:=⟨_,rfl⟩
   have HN1:Aside0 (n1=((n+1:Nat):Int)):=⟨za20⟩
   obtain ⟨kt1,T1_⟩:=hT.out q1 za28 za14
   have T1:=zk T1_
   clear T1_
   obtain ⟨kt2,T2_⟩:=hT.out q2 (by have:=LO2.out;omega) za25
   have T2:=zk T2_
   clear T2_
   obtain ⟨kt4,T4_⟩:=hT.out q4 (by have:=LO4.out;omega) za24
   have T4:=zk T4_
   clear T4_
   cases gk with
   | zero=>exact absurd HN.out (by omega)
   | succ k1 =>
    skip
    go_wp2_with (first
     | ((with_reducible refine gate_store (t:=3) (p:=16) rfl ?_);refine store_event (t:=3) (p:=16) (v:=?vo_16) (w1:=(wr.setCell ⟨g,n * 8,none⟩ (.int .i64 q0))) ?hg ?ho ?hn ?hr ?_;(case ho=>rfl);(case hg=>rfl);(case hn=>rfl);(case hr=>first|(go_simp;done)|(go_simp;rfl));intro w3 hw;have n1:Aside0 (Fr ok W w3):=⟨za16⟩;have n2:=zk (D.out.set0 q0);rw [← hw] at n2;clear hw;clear M D h0_ h1_ h2_ h3_ h4_ h5_ h6_ h7_ f0_ f1_ f2_ f3_ f4_ f5_ f6_ f7_;have M:=n1;have D:=n2;clear n1 n2;obtain ⟨h0_,h1_,h2_,h3_,h4_,h5_,h6_,h7_,cs_,b_⟩:=D.out.cells;have f0_:=blk_frozen b_ (n * 8);have f1_:=blk_frozen b_ (n * 8+1);have f2_:=blk_frozen b_ (n * 8+2);have f3_:=blk_frozen b_ (n * 8+3);have f4_:=blk_frozen b_ (n * 8+4);have f5_:=blk_frozen b_ (n * 8+5);have f6_:=blk_frozen b_ (n * 8+6);have f7_:=blk_frozen b_ (n * 8+7);clear b_)
     | (go_at_call 32;(with_reducible refine (laws_markText.calls _ _ _ _ T1.out).mono ?_);rintro e w4 ⟨rfl,hb⟩;have n1:=zk (M.out.trans (Fr.below hb));have n2:=zk (D.out.below hb);clear hb;clear M D h0_ h1_ h2_ h3_ h4_ h5_ h6_ h7_ f0_ f1_ f2_ f3_ f4_ f5_ f6_ f7_;have M:=n1;have D:=n2;clear n1 n2;obtain ⟨h0_,h1_,h2_,h3_,h4_,h5_,h6_,h7_,cs_,b_⟩:=D.out.cells;have f0_:=blk_frozen b_ (n * 8);have f1_:=blk_frozen b_ (n * 8+1);have f2_:=blk_frozen b_ (n * 8+2);have f3_:=blk_frozen b_ (n * 8+3);have f4_:=blk_frozen b_ (n * 8+4);have f5_:=blk_frozen b_ (n * 8+5);have f6_:=blk_frozen b_ (n * 8+6);have f7_:=blk_frozen b_ (n * 8+7);clear b_)
     | ((with_reducible refine gate_store (t:=9) (p:=24) rfl ?_);refine store_event (t:=9) (p:=24) (v:=?vo_24) (w1:=(w4.setCell ⟨g,n * 8+1,none⟩ (.string (mt q1)))) ?hg ?ho ?hn ?hr ?_;(case ho=>rfl);(case hg=>rfl);(case hn=>rfl);(case hr=>first|(go_simp;done)|(go_simp;rfl));intro w5 hw;have n1:Aside0 (Fr ok W w5):=⟨za16⟩;have n2:=zk (D.out.set1 (mt q1));rw [← hw] at n2;clear hw;clear M D h0_ h1_ h2_ h3_ h4_ h5_ h6_ h7_ f0_ f1_ f2_ f3_ f4_ f5_ f6_ f7_;have M:=n1;have D:=n2;clear n1 n2;obtain ⟨h0_,h1_,h2_,h3_,h4_,h5_,h6_,h7_,cs_,b_⟩:=D.out.cells;have f0_:=blk_frozen b_ (n * 8);have f1_:=blk_frozen b_ (n * 8+1);have f2_:=blk_frozen b_ (n * 8+2);have f3_:=blk_frozen b_ (n * 8+3);have f4_:=blk_frozen b_ (n * 8+4);have f5_:=blk_frozen b_ (n * 8+5);have f6_:=blk_frozen b_ (n * 8+6);have f7_:=blk_frozen b_ (n * 8+7);clear b_)
     | (go_at_call 32;(with_reducible refine (laws_markText.calls _ _ _ _ T2.out).mono ?_);rintro e w6 ⟨rfl,hb⟩;have n1:=zk (M.out.trans (Fr.below hb));have n2:=zk (D.out.below hb);clear hb;clear M D h0_ h1_ h2_ h3_ h4_ h5_ h6_ h7_ f0_ f1_ f2_ f3_ f4_ f5_ f6_ f7_;have M:=n1;have D:=n2;clear n1 n2;obtain ⟨h0_,h1_,h2_,h3_,h4_,h5_,h6_,h7_,cs_,b_⟩:=D.out.cells;have f0_:=blk_frozen b_ (n * 8);have f1_:=blk_frozen b_ (n * 8+1);have f2_:=blk_frozen b_ (n * 8+2);have f3_:=blk_frozen b_ (n * 8+3);have f4_:=blk_frozen b_ (n * 8+4);have f5_:=blk_frozen b_ (n * 8+5);have f6_:=blk_frozen b_ (n * 8+6);have f7_:=blk_frozen b_ (n * 8+7);clear b_)
     | ((with_reducible refine gate_store (t:=9) (p:=32) rfl ?_);refine store_event (t:=9) (p:=32) (v:=?vo_32) (w1:=(w6.setCell ⟨g,n * 8+2,none⟩ (.string (mt q2)))) ?hg ?ho ?hn ?hr ?_;(case ho=>rfl);(case hg=>rfl);(case hn=>rfl);(case hr=>first|(go_simp;done)|(go_simp;rfl));intro w7 hw;have n1:Aside0 (Fr ok W w7):=⟨za16⟩;have n2:=zk (D.out.set2 (mt q2));rw [← hw] at n2;clear hw;clear M D h0_ h1_ h2_ h3_ h4_ h5_ h6_ h7_ f0_ f1_ f2_ f3_ f4_ f5_ f6_ f7_;have M:=n1;have D:=n2;clear n1 n2;obtain ⟨h0_,h1_,h2_,h3_,h4_,h5_,h6_,h7_,cs_,b_⟩:=D.out.cells;have f0_:=blk_frozen b_ (n * 8);have f1_:=blk_frozen b_ (n * 8+1);have f2_:=blk_frozen b_ (n * 8+2);have f3_:=blk_frozen b_ (n * 8+3);have f4_:=blk_frozen b_ (n * 8+4);have f5_:=blk_frozen b_ (n * 8+5);have f6_:=blk_frozen b_ (n * 8+6);have f7_:=blk_frozen b_ (n * 8+7);clear b_)
     | ((with_reducible refine gate_store (t:=3) (p:=40) rfl ?_);refine store_event (t:=3) (p:=40) (v:=?vo_40) (w1:=(w7.setCell ⟨g,n * 8+3,none⟩ (.int .i64 q3))) ?hg ?ho ?hn ?hr ?_;(case ho=>rfl);(case hg=>rfl);(case hn=>rfl);(case hr=>first|(go_simp;done)|(go_simp;rfl));intro w8 hw;have n1:Aside0 (Fr ok W w8):=⟨za16⟩;have n2:=zk (D.out.set3 q3);rw [← hw] at n2;clear hw;clear M D h0_ h1_ h2_ h3_ h4_ h5_ h6_ h7_ f0_ f1_ f2_ f3_ f4_ f5_ f6_ f7_;have M:=n1;have D:=n2;clear n1 n2;obtain ⟨h0_,h1_,h2_,h3_,h4_,h5_,h6_,h7_,cs_,b_⟩:=D.out.cells;have f0_:=blk_frozen b_ (n * 8);have f1_:=blk_frozen b_ (n * 8+1);have f2_:=blk_frozen b_ (n * 8+2);have f3_:=blk_frozen b_ (n * 8+3);have f4_:=blk_frozen b_ (n * 8+4);have f5_:=blk_frozen b_ (n * 8+5);have f6_:=blk_frozen b_ (n * 8+6);have f7_:=blk_frozen b_ (n * 8+7);clear b_)
     | (go_at_call 32;(with_reducible refine (laws_markText.calls _ _ _ _ T4.out).mono ?_);rintro e w9 ⟨rfl,hb⟩;have n1:=zk (M.out.trans (Fr.below hb));have n2:=zk (D.out.below hb);clear hb;clear M D h0_ h1_ h2_ h3_ h4_ h5_ h6_ h7_ f0_ f1_ f2_ f3_ f4_ f5_ f6_ f7_;have M:=n1;have D:=n2;clear n1 n2;obtain ⟨h0_,h1_,h2_,h3_,h4_,h5_,h6_,h7_,cs_,b_⟩:=D.out.cells;have f0_:=blk_frozen b_ (n * 8);have f1_:=blk_frozen b_ (n * 8+1);have f2_:=blk_frozen b_ (n * 8+2);have f3_:=blk_frozen b_ (n * 8+3);have f4_:=blk_frozen b_ (n * 8+4);have f5_:=blk_frozen b_ (n * 8+5);have f6_:=blk_frozen b_ (n * 8+6);have f7_:=blk_frozen b_ (n * 8+7);clear b_)
     | ((with_reducible refine gate_store (t:=9) (p:=49) rfl ?_);refine store_event (t:=9) (p:=49) (v:=?vo_49) (w1:=(w9.setCell ⟨g,n * 8+4,none⟩ (.string (mt q4)))) ?hg ?ho ?hn ?hr ?_;(case ho=>rfl);(case hg=>rfl);(case hn=>rfl);(case hr=>first|(go_simp;done)|(go_simp;rfl));intro w10 hw;have n1:Aside0 (Fr ok W w10):=⟨za16⟩;have n2:=zk (D.out.set4 (mt q4));rw [← hw] at n2;clear hw;clear M D h0_ h1_ h2_ h3_ h4_ h5_ h6_ h7_ f0_ f1_ f2_ f3_ f4_ f5_ f6_ f7_;have M:=n1;have D:=n2;clear n1 n2;obtain ⟨h0_,h1_,h2_,h3_,h4_,h5_,h6_,h7_,cs_,b_⟩:=D.out.cells;have f0_:=blk_frozen b_ (n * 8);have f1_:=blk_frozen b_ (n * 8+1);have f2_:=blk_frozen b_ (n * 8+2);have f3_:=blk_frozen b_ (n * 8+3);have f4_:=blk_frozen b_ (n * 8+4);have f5_:=blk_frozen b_ (n * 8+5);have f6_:=blk_frozen b_ (n * 8+6);have f7_:=blk_frozen b_ (n * 8+7);clear b_)
     | (go_at_call 33;(with_reducible refine (mark_sep mt hT d _ _ q5 _ base _ HT2.out D.out.sub5 (by have:=LO5.out;omega) (by have:=UP5.out;have:=LE.out;have:=H1.out;omega)).mono ?_);rintro e w11 ⟨q6,rfl,hq_,hf,hs⟩;have Qq6:=zk hq_;have n1:=zk (M.out.trans (hf.mono (fun k hk=>(D.out.bd k hk.1).1)));have n2:=zk (D.out.subs5 hf hs);clear hf hs hq_;clear M D h0_ h1_ h2_ h3_ h4_ h5_ h6_ h7_ f0_ f1_ f2_ f3_ f4_ f5_ f6_ f7_;have M:=n1;have D:=n2;clear n1 n2;obtain ⟨h0_,h1_,h2_,h3_,h4_,h5_,h6_,h7_,cs_,b_⟩:=D.out.cells;have f0_:=blk_frozen b_ (n * 8);have f1_:=blk_frozen b_ (n * 8+1);have f2_:=blk_frozen b_ (n * 8+2);have f3_:=blk_frozen b_ (n * 8+3);have f4_:=blk_frozen b_ (n * 8+4);have f5_:=blk_frozen b_ (n * 8+5);have f6_:=blk_frozen b_ (n * 8+6);have f7_:=blk_frozen b_ (n * 8+7);clear b_;have LO6:Aside0 (0≤q6):=⟨by have:=Qq6.out;have:=LO5.out;omega⟩)
     | (go_at_call 34;(with_reducible refine (mark_ints _ _ _ base _ q6 D.out.sub6 (by have:=LO6.out;omega) (by have:=Qq6.out;have:=UP5.out;have:=LE.out;have:=H1.out;omega)).mono ?_);rintro e w12 ⟨q7,rfl,hq_,hf,hs⟩;have Qq7:=zk hq_;have n1:=zk (M.out.trans (hf.mono (fun k hk=>D.out.own6 k hk)));have n2:=zk (D.out.subs6 hf hs);clear hf hs hq_;clear M D h0_ h1_ h2_ h3_ h4_ h5_ h6_ h7_ f0_ f1_ f2_ f3_ f4_ f5_ f6_ f7_;have M:=n1;have D:=n2;clear n1 n2;obtain ⟨h0_,h1_,h2_,h3_,h4_,h5_,h6_,h7_,cs_,b_⟩:=D.out.cells;have f0_:=blk_frozen b_ (n * 8);have f1_:=blk_frozen b_ (n * 8+1);have f2_:=blk_frozen b_ (n * 8+2);have f3_:=blk_frozen b_ (n * 8+3);have f4_:=blk_frozen b_ (n * 8+4);have f5_:=blk_frozen b_ (n * 8+5);have f6_:=blk_frozen b_ (n * 8+6);have f7_:=blk_frozen b_ (n * 8+7);clear b_;obtain ⟨q8,hq8⟩:∃ q8,wrap64 (q7+1)=q8:=⟨_,rfl⟩;have Q8:Aside0 (q8=q7+1):=⟨za23⟩)
     | ((with_reducible refine gate_store (t:=3) (p:=71) rfl ?_);refine store_event (t:=3) (p:=71) (v:=?vo_71) (w1:=(w12.setCell ⟨g,n * 8+7,none⟩ (.int .i64 q7))) ?hg ?ho ?hn ?hr ?_;(case ho=>rfl);(case hg=>rfl);(case hn=>rfl);(case hr=>first|(go_simp;done)|(go_simp;rfl));intro w13 hw;have n1:Aside0 (Fr ok W w13):=⟨za16⟩;have n2:=zk (D.out.set7 q7);rw [← hw] at n2;clear hw;clear M D h0_ h1_ h2_ h3_ h4_ h5_ h6_ h7_ f0_ f1_ f2_ f3_ f4_ f5_ f6_ f7_;have M:=n1;have D:=n2;clear n1 n2;obtain ⟨h0_,h1_,h2_,h3_,h4_,h5_,h6_,h7_,cs_,b_⟩:=D.out.cells;have f0_:=blk_frozen b_ (n * 8);have f1_:=blk_frozen b_ (n * 8+1);have f2_:=blk_frozen b_ (n * 8+2);have f3_:=blk_frozen b_ (n * 8+3);have f4_:=blk_frozen b_ (n * 8+4);have f5_:=blk_frozen b_ (n * 8+5);have f6_:=blk_frozen b_ (n * 8+6);have f7_:=blk_frozen b_ (n * 8+7);clear b_))
    go_roundg k1
    case measure=>omega
    case rel=>exact ⟨n+1,q8,za9,za18,⟨by rw [cntC_succ _ xs n HLT.out];have:=Q8.out;have:=Qq7.out;have:=Qq6.out;have:=UP5.out;have:=Q0.out;omega⟩,⟨by have:=HN.out;omega⟩,M,⟨by
     have eq_:mkC mt d q0 xs[n]=⟨q0,mt q1,mt q2,⟨q3,mt q4,mkR mt d q5 xs[n].f3.f2⟩,soFarI q6 xs[n].f4 xs[n].f4.length,q7⟩:=by
      have z1:q0+1=q1:=by rw [Q1.out]
      have z2:q0+2=q2:=by rw [Q2.out,Q1.out];omega
      have z3:q0+3=q3:=by rw [Q3.out,Q2.out,Q1.out];omega
      have z4:q0+4=q4:=by rw [Q4.out,Q3.out,Q2.out,Q1.out];omega
      have z5:q0+5=q5:=by rw [Q5.out,Q4.out,Q3.out,Q2.out,Q1.out];omega
      unfold mkC
      rw [z1,z2,z3,z4,z5,← Qq6.out,← Qq7.out]
     rw [← soFarC_next mt d a1 xs n HLT.out Q0.out,eq_]
     exact D.out.back⟩⟩
  ·have c3b0:decide (n < xs.length)=false:=decide_eq_false hlt
   have c3b1:decide ((n:Int) < (xs.length:Int))=false:=decide_eq_false (by omega)
   have HE:Aside0 (q0=a1+(cntC d xs:Nat)):=⟨za21⟩
   have HL2:Aside0 (Kd.S kCS 46 wr base ok (.slice A xs.length c) (mkCs mt d a1 xs)):=⟨by have:=HL.out;rw [soFarC,List.take_of_length_le (by omega),List.drop_of_length_le (by omega),List.append_nil] at this;exact this⟩
   clear hlt
   go_wp2
   go_ret
   exact ⟨q0,za30,HE.out,M.out,HL2.out⟩
set_option maxHeartbeats 1000000 in
theorem mark_prob (mt:Int→ByteArray) (hT:Aside0 (∀ q:Int,0≤q→q≤4611686018427387904→∃ k,laws_markText.f k q=some (mt q))) (d:Nat) (xs:List S46) (v:Value) (a1:Int) (W:World) (base:Nat) (ok:Nat→Prop) (hh:(xs.all fun y=>y.f3.f2.all (htB d))=true) (h:Kd.S kCS 46 W base ok v xs) (h0:0≤a1) (h1:a1+(cntC d xs:Nat)≤4611686018427387904) :
  Calls Try.prog 9 #[.agg #[v],.int .i64 a1] W fun e W'=>∃ r:Int,e = .returned (.int .i64 r)∧r=a1+(cntC d xs:Nat)∧Fr ok W W'∧Kd.S kCS 46 W' base ok v (mkCs mt d a1 xs):=by
 have HS:=zk h
 have HH:=zk hh
 have H0:=zk h0
 have H1:=zk h1
 obtain ⟨A,c,rfl⟩:=Kd.S_slice h
 clear h h0 h1 hh
 go_enter Try.func9,Try.ntmps9
 go_wp2_with (first
  | ((with_reducible refine gate_dst (N:=2) rfl ?_);refine zE (cs:=#[.slice A xs.length c]) (t:=28) ?_;intro gr hgr w3 hbox hb3;have M3:Aside0 (Fr ok W w3):=⟨Fr.below hb3⟩;have HL3:=zk (Kd.S_below HS.out hb3);obtain ⟨y0,g0⟩:=blk1 hbox;clear hb3 hbox hgr)
  | (go_at_call 21;(with_reducible refine (mark_cons mt hT d xs _ a1 _ base ok HH.out HL3.out H0.out H1.out).mono ?_);rintro e w4 ⟨r,rfl,hr,hf,hs⟩;have M4:Aside0 (Fr ok W w4):=⟨M3.out.trans hf⟩;have HR:=zk hr;have HS4:=zk hs;clear hr hf hs))
 go_ret
 exact ⟨r,za30,HR.out,M4.out,HS4.out⟩
end Go.Proofs.Yteolnmoomeenbaa.Ext
namespace Go.Proofs.Yteolnmoomeenbaa.Ext
open Go Go.RowKit YteolnmoomeenbaaW.PrintWords YteolnmoomeenbaaW.PrintLast Yteolnmoomeenbaa.A
open Classical in
noncomputable def mtx (q : Int) : ByteArray := if h : ∃ t, ∃ k, laws_markText.f k q = some t then h.choose else ByteArray.empty
theorem mtx_ok (q:Int) (h0:0≤q) (h1:q≤4611686018427387904):∃ k,laws_markText.f k q=some (mtx q):=by
 obtain ⟨k,t,e⟩:=markText_all q h0 h1
 have h:∃ t,∃ k,laws_markText.f k q=some t:=⟨t,k,e⟩
 unfold mtx
 rw [dif_pos h]
 exact h.choose_spec
open Classical in
noncomputable def Dm (l : List S46) : Nat := if h : ∃ d, (l.all fun y => y.f3.f2.all (htB d)) = true ∧ 1 + cntC d l ≤ 4611686018427387904 then h.choose else 0
theorem Dm_ok (l:List S46) (h:∃ d,(l.all fun y=>y.f3.f2.all (htB d))=true∧1+cntC d l≤4611686018427387904):(l.all fun y=>y.f3.f2.all (htB (Dm l)))=true∧1+cntC (Dm l) l≤4611686018427387904:=by
 unfold Dm
 rw [dif_pos h]
 exact h.choose_spec
noncomputable def laws_markProblem.f (l : List S46) (a : Int) : Option Int := if 0 ≤ a ∧ a + (cntC (Dm l) l : Nat) ≤ 4611686018427387904 ∧ (l.all fun y => y.f3.f2.all (htB (Dm l))) = true then some (a + (cntC (Dm l) l : Nat)) else none
noncomputable def laws_markProblem.m (l : List S46) (a : Int) : List S46 := mkCs mtx (Dm l) a l
theorem laws_markProblem.len (l:List S46) (a:Int):(laws_markProblem.m l a).length=l.length:=mkCs_len _ _ _ _
theorem laws_markProblem.apart (l:List S46) (a r:Int) (v:Value) (W:World) (base:Nat) (ok:Nat→Prop) (h:Kd.S kCS 46 W base ok v l) (hf:laws_markProblem.f l a=some r) :
  Calls Try.prog 9 #[.agg #[v],.int .i64 a] W fun e W'=>e = .returned (.int .i64 r)∧Fr ok W W'∧Kd.S kCS 46 W' base ok v (laws_markProblem.m l a):=by
 unfold laws_markProblem.f at hf
 split at hf
 ·next hc =>
  obtain rfl:=zi hf
  refine (mark_prob mtx ⟨fun q h0 h1=>mtx_ok q h0 h1⟩ (Dm l) l v a W base ok hc.2.2 h hc.1 hc.2.1).mono ?_
  rintro e W' ⟨r,rfl,rfl,h1,h2⟩
  exact ⟨rfl,h1,h2⟩
 ·exact absurd hf (by simp)
theorem laws_markProblem.any (lo hi:Nat) (l:List S46) (a r:Int) (v:Value) (W:World) (hhi:hi≤W.heap.size) (h:ShC lo hi W v l (Dm l)) (hf:laws_markProblem.f l a=some r) :
  Calls Try.prog 9 #[.agg #[v],.int .i64 a] W fun e W'=>e = .returned (.int .i64 r)∧Mk lo hi W W':=by
 unfold laws_markProblem.f at hf
 split at hf
 ·next hc =>
  obtain rfl:=zi hf
  refine (mark_problem lo hi ⟨fun q h0 h1=>markText_all q h0 h1⟩ (Dm l) l v a W hhi h hc.1 hc.2.1).mono ?_
  rintro e W' ⟨r,rfl,rfl,h1⟩
  exact ⟨rfl,h1⟩
 ·exact absurd hf (by simp)
theorem laws_markProblem.heights (l:List S46) (a r:Int) (hf:laws_markProblem.f l a=some r):(l.all fun y=>y.f3.f2.all (htB (Dm l)))=true:=by
 unfold laws_markProblem.f at hf
 split at hf
 ·next hc=>exact hc.2.2
 ·exact absurd hf (by simp)
theorem laws_markProblem.some_ (l:List S46) (h:∃ d,(l.all fun y=>y.f3.f2.all (htB d))=true∧1+cntC d l≤4611686018427387904):∃ r,laws_markProblem.f l 1=some r:=by
 have h2:=Dm_ok l h
 exact ⟨_,if_pos ⟨by omega,by have:=h2.2;omega,h2.1⟩⟩
end Go.Proofs.Yteolnmoomeenbaa.Ext
namespace Go.Proofs.Yteolnmoomeenbaa.A
open Go.RowKit Yteolnmoomeenbaa.Ext YteolnmoomeenbaaW.PrintWords YteolnmoomeenbaaW.PrintLast YteolnmoomeenbaaW.PrintMore
attribute [local go_sem] max2_int min2_int max_two min_two max_three min_three max_four min_four
def spec_l1In.f (a0:Int) (a1:Int) (a2:Int):Option (Bool):=if a0 ≥ a1 then (some (decide (a0≤a2))) else (some false)
theorem spec_l1In.calls (a0:Int) (a1:Int) (a2:Int) (r:Bool) (w:World) (h:spec_l1In.f a0 a1 a2=some r) :
   Calls Try.prog 13 #[.int .i64 a0,.int .i64 a1,.int .i64 a2] w fun e w'=>e = .returned (.bool r)∧Drawn0 w w':=by
 have H:=h
 unfold spec_l1In.f at H
 clear h
 by_cases c4:a0 ≥ a1
 rw [if_pos c4] at H
 have c4b0:=zdle c4
 rotate_left
 rw [if_neg c4] at H
 have c4b0:=zdnle c4
 rotate_left
 all_goals
  clear c4
  obtain rfl:=zi H
  go_enter Try.func13,Try.ntmps13
  go_wp2
  go_ret
  exact ⟨za9,za10⟩
def spec_l1Max.f (a0:Int) (a1:Int):Option (Int):=if a0 > a1 then (some a0) else (some a1)
theorem spec_l1Max.calls (a0:Int) (a1:Int) (r:Int) (w:World) (h:spec_l1Max.f a0 a1=some r) :
   Calls Try.prog 68 #[.int .i64 a0,.int .i64 a1] w fun e w'=>e = .returned (.int .i64 r)∧Drawn0 w w':=by
 have H:=h
 unfold spec_l1Max.f at H
 clear h
 by_cases c3:a0 > a1
 rw [if_pos c3] at H
 have c3b0:=zdl c3
 rotate_left
 rw [if_neg c3] at H
 have c3b0:=zdnl c3
 rotate_left
 all_goals
  clear c3
  obtain rfl:=zi H
  go_enter Try.func68,Try.ntmps68
  go_wp2
  go_ret
  exact ⟨za9,za10⟩
def spec_LetterIndex.l0:Nat→Int→Int→Option (Int)
 | 0,_,_=>none
 | k+1,x0,x3=>if x3 < 3 then (if 0≤x3 then (if (bt (⟨#[97,98,99]⟩:ByteArray) x3)=x0 then (some x3) else (spec_LetterIndex.l0 k x0 (wrap64 (x3+1)))) else (none)) else (some (-1))
def spec_LetterIndex.f (k:Nat) (a0:Int):Option (Int):=spec_LetterIndex.l0 k a0 0
theorem spec_LetterIndex.calls (k:Nat) (a0:Int) (r:Int) (w:World) (h:spec_LetterIndex.f k a0=some r) :
   Calls Try.prog 57 #[.int .u8 a0] w fun e w'=>e = .returned (.int .i64 r)∧Drawn0 w w':=by
 have H:=h
 unfold spec_LetterIndex.f at H
 clear h
 have H':=zk H
 clear H
 go_enter Try.func57,Try.ntmps57
 go_wp2
 try simp only [Act.put,zt,zv,zu]
 go_loopg [3] k (fun kq v3 w'=>∃ (x3_1:Int),v3 = .int .i64 x3_1∧Aside0 (spec_LetterIndex.l0 kq a0 x3_1=some r)∧Aside0 (kq≤k)∧Drawn0 w w')
 case atStart=>exact ⟨(0),za9,H',⟨Nat.le_refl _⟩,za10⟩
 case round =>
  clear H'
  obtain ⟨x3_1,rfl,HA,HK1,⟨m1,rfl⟩⟩:=hrel
  cases gk with
  | zero=>exact absurd HA.out (by simp [spec_LetterIndex.l0])
  | succ k1 =>
   have H:=HA.out
   clear HA
   simp only [spec_LetterIndex.l0] at H
   by_cases c2:x3_1 < 3
   rw [if_pos c2] at H
   have c2b0:=zdl c2
   clear c2
   by_cases c3:0≤x3_1
   rw [if_pos c3] at H
   have c3b0:=zdle c3
   clear c3
   by_cases c5:(bt (⟨#[97,98,99]⟩:ByteArray) x3_1)=a0
   ·rw [if_pos c5] at H
    have c5b0:=zbt c5
    have c5b1:=zqn c5
    clear c5
    obtain rfl:=zi H
    have p4:0≤(x3_1:Int):=of_decide_eq_true za7
    have q4:x3_1 < (3:Int):=of_decide_eq_true za7
    have hx4:=bt_at (⟨#[97,98,99]⟩:ByteArray) x3_1
    replace p4:=eq_true p4
    replace q4:=eq_true q4
    go_wp2
    go_ret
    exact ⟨za9,za10⟩
   ·rw [if_neg c5] at H
    have c5b0:=zbn c5
    have c5b1:=zqt c5
    have H':=zk H
    clear H
    have p4:0≤(x3_1:Int):=of_decide_eq_true za7
    have q4:x3_1 < (3:Int):=of_decide_eq_true za7
    have hx4:=bt_at (⟨#[97,98,99]⟩:ByteArray) x3_1
    replace p4:=eq_true p4
    replace q4:=eq_true q4
    go_wp2
    go_roundg k1
    case measure=>have:=HK1.out;omega
    case rel=>exact ⟨(wrap64 (x3_1+1)),za9,H',⟨za11⟩,za10⟩
   ·rw [if_neg c3] at H
    exact absurd H (by simp)
   ·rw [if_neg c2] at H
    have c2b0:=zdnl c2
    clear c2
    obtain rfl:=zi H
    go_wp2
    go_ret
    exact ⟨za9,za10⟩
def spec_IsWord.l0:Nat→ByteArray→Int→Option (Bool)
 | 0,_,_=>none
 | k+1,x0,x3=>if x3 < (x0.size:Int) then (if 0≤x3 then ((spec_LetterIndex.f k (bt x0 x3)).bind fun t69001=>(if t69001 < 0 then (some false) else (spec_IsWord.l0 k x0 (wrap64 (x3+1))))) else (none)) else (some (decide ((x0.size:Int)≤30)))
def spec_IsWord.f (k:Nat) (a0:ByteArray):Option (Bool):=spec_IsWord.l0 k a0 0
theorem spec_IsWord.calls (k:Nat) (a0:ByteArray) (r:Bool) (w:World) (h:spec_IsWord.f k a0=some r) :
   Calls Try.prog 69 #[.string a0] w fun e w'=>e = .returned (.bool r)∧Drawn0 w w':=by
 have H:=h
 unfold spec_IsWord.f at H
 clear h
 have H':=zk H
 clear H
 go_enter Try.func69,Try.ntmps69
 go_wp2
 try simp only [Act.put,zt,zv,zu]
 go_loopg [3] k (fun kq v3 w'=>∃ (x3_1:Int),v3 = .int .i64 x3_1∧Aside0 (spec_IsWord.l0 kq a0 x3_1=some r)∧Aside0 (kq≤k)∧Drawn0 w w')
 case atStart=>exact ⟨(0),za9,H',⟨Nat.le_refl _⟩,za10⟩
 case round =>
  clear H'
  obtain ⟨x3_1,rfl,HA,HK1,⟨m1,rfl⟩⟩:=hrel
  cases gk with
  | zero=>exact absurd HA.out (by simp [spec_IsWord.l0])
  | succ k1 =>
   have H:=HA.out
   clear HA
   simp only [spec_IsWord.l0] at H
   by_cases c2:x3_1 < (a0.size:Int)
   rw [if_pos c2] at H
   have c2b0:=zdl c2
   clear c2
   by_cases c3:0≤x3_1
   rw [if_pos c3] at H
   have c3b0:=zdle c3
   clear c3
   obtain ⟨t1,A5,H⟩:=zO H
   try dsimp only at H
   by_cases c6:t1 < 0
   rw [if_pos c6] at H
   have c6b0:=zdl c6
   clear c6
   obtain rfl:=zi H
   have fin0_:=zk trivial
   rotate_left
   rw [if_neg c6] at H
   have c6b0:=zdnl c6
   clear c6
   have H':=zk H
   clear H
   have fin1_:=zk trivial
   rotate_left
   · rw [if_neg c3] at H
     exact absurd H (by simp)
   · rw [if_neg c2] at H
     have c2b0:=zdnl c2
     clear c2
     obtain rfl:=zi H
     go_wp2
     go_ret
     exact ⟨za9,za10⟩
   all_goals
    have p4:0≤(x3_1:Int):=of_decide_eq_true za7
    have q4:x3_1 < (a0.size:Int):=of_decide_eq_true za7
    have hx4:=bt_at a0 x3_1
    replace p4:=eq_true p4
    replace q4:=eq_true q4
    go_wp2_with (((with_reducible refine gate_callee (f:=57) rfl ?_);refine zg (some 13) Try.func57 #[.int .u8 (bt a0 x3_1)] rfl za6 ?_;(with_reducible refine (spec_LetterIndex.calls k1 (bt a0 x3_1) t1 _ A5.out).mono ?_);rintro e w' ⟨rfl,⟨nd,rfl⟩⟩;refine ⟨_,rfl,?_⟩))
    first
    | (
      clear fin0_
      go_ret
      exact ⟨za9,za10⟩)
    | (
      clear fin1_
      go_roundg k1
      case measure=>have:=HK1.out;omega
      case rel=>exact ⟨(wrap64 (x3_1+1)),za9,H',⟨za11⟩,za10⟩)
def spec_l8Var.f (a0:Int):Option (Bool):=if a0 ≥ 88 then (some (decide (a0≤90))) else (some false)
theorem spec_l8Var.calls (a0:Int) (r:Bool) (w:World) (h:spec_l8Var.f a0=some r) :
   Calls Try.prog 58 #[.int .u8 a0] w fun e w'=>e = .returned (.bool r)∧Drawn0 w w':=by
 have H:=h
 unfold spec_l8Var.f at H
 clear h
 by_cases c2:a0 ≥ 88
 rw [if_pos c2] at H
 have c2b0:=zdle c2
 rotate_left
 rw [if_neg c2] at H
 have c2b0:=zdnle c2
 rotate_left
 all_goals
  clear c2
  obtain rfl:=zi H
  go_enter Try.func58,Try.ntmps58
  go_wp2
  go_ret
  exact ⟨za9,za10⟩
def spec_IsTerm.l0:Nat→ByteArray→Int→Option (Bool)
 | 0,_,_=>none
 | k+1,x0,x3=>if x3 < (x0.size:Int) then (if 0≤x3 then ((spec_LetterIndex.f k (bt x0 x3)).bind fun t39001=>(if t39001 < 0 then ((spec_l8Var.f (bt x0 x3)).bind fun t39002=>(if t39002=true then (spec_IsTerm.l0 k x0 (wrap64 (x3+1))) else (some false))) else (spec_IsTerm.l0 k x0 (wrap64 (x3+1))))) else (none)) else (some (decide ((x0.size:Int)≤12)))
def spec_IsTerm.f (k:Nat) (a0:ByteArray):Option (Bool):=spec_IsTerm.l0 k a0 0
theorem spec_IsTerm.calls (k:Nat) (a0:ByteArray) (r:Bool) (w:World) (h:spec_IsTerm.f k a0=some r) :
   Calls Try.prog 39 #[.string a0] w fun e w'=>e = .returned (.bool r)∧Drawn0 w w':=by
 have H:=h
 unfold spec_IsTerm.f at H
 clear h
 have H':=zk H
 clear H
 go_enter Try.func39,Try.ntmps39
 go_wp2
 try simp only [Act.put,zt,zv,zu]
 go_loopg [3] k (fun kq v3 w'=>∃ (x3_1:Int),v3 = .int .i64 x3_1∧Aside0 (spec_IsTerm.l0 kq a0 x3_1=some r)∧Aside0 (kq≤k)∧Drawn0 w w')
 case atStart=>exact ⟨(0),za9,H',⟨Nat.le_refl _⟩,za10⟩
 case round =>
  clear H'
  obtain ⟨x3_1,rfl,HA,HK1,⟨m1,rfl⟩⟩:=hrel
  cases gk with
  | zero=>exact absurd HA.out (by simp [spec_IsTerm.l0])
  | succ k1 =>
   have H:=HA.out
   clear HA
   simp only [spec_IsTerm.l0] at H
   by_cases c2:x3_1 < (a0.size:Int)
   rw [if_pos c2] at H
   have c2b0:=zdl c2
   clear c2
   by_cases c3:0≤x3_1
   rw [if_pos c3] at H
   have c3b0:=zdle c3
   clear c3
   obtain ⟨t1,A5,H⟩:=zO H
   try dsimp only at H
   by_cases c6:t1 < 0
   rw [if_pos c6] at H
   have c6b0:=zdl c6
   clear c6
   obtain ⟨t2,A8,H⟩:=zO H
   try dsimp only at H
   by_cases c9:t2=true
   subst c9
   rw [if_pos rfl] at H
   try dsimp only at H
   have H':=zk H
   clear H
   have fin0_:=zk trivial
   rotate_left
   replace c9:=Bool.eq_false_iff.mpr c9
   subst c9
   rw [if_neg zff] at H
   try dsimp only at H
   obtain rfl:=zi H
   have fin1_:=zk trivial
   rotate_left
   · rw [if_neg c6] at H
     have c6b0:=zdnl c6
     clear c6
     have H':=zk H
     clear H
     have p4:0≤(x3_1:Int):=of_decide_eq_true za7
     have q4:x3_1 < (a0.size:Int):=of_decide_eq_true za7
     have hx4:=bt_at a0 x3_1
     replace p4:=eq_true p4
     replace q4:=eq_true q4
     go_wp2_with (first|((with_reducible refine gate_callee (f:=57) rfl ?_);refine zg (some 13) Try.func57 #[.int .u8 (bt a0 x3_1)] rfl za6 ?_;(with_reducible refine (spec_LetterIndex.calls k1 (bt a0 x3_1) t1 _ A5.out).mono ?_);rintro e w' ⟨rfl,⟨nd,rfl⟩⟩;refine ⟨_,rfl,?_⟩))
     go_roundg k1
     case measure=>have:=HK1.out;omega
     case rel=>exact ⟨(wrap64 (x3_1+1)),za9,H',⟨za11⟩,za10⟩
   · rw [if_neg c3] at H
     exact absurd H (by simp)
   · rw [if_neg c2] at H
     have c2b0:=zdnl c2
     clear c2
     obtain rfl:=zi H
     go_wp2
     go_ret
     exact ⟨za9,za10⟩
   all_goals
    have p4:0≤(x3_1:Int):=of_decide_eq_true za7
    have q4:x3_1 < (a0.size:Int):=of_decide_eq_true za7
    have hx4:=bt_at a0 x3_1
    replace p4:=eq_true p4
    replace q4:=eq_true q4
    go_wp2_with (first|((with_reducible refine gate_callee (f:=57) rfl ?_);refine zg (some 13) Try.func57 #[.int .u8 (bt a0 x3_1)] rfl za6 ?_;(with_reducible refine (spec_LetterIndex.calls k1 (bt a0 x3_1) t1 _ A5.out).mono ?_);rintro e w' ⟨rfl,⟨nd,rfl⟩⟩;refine ⟨_,rfl,?_⟩;have p7:0≤(x3_1:Int):=of_decide_eq_true za7;have q7:x3_1 < (a0.size:Int):=of_decide_eq_true za7;have hx7:=bt_at a0 x3_1;replace p7:=eq_true p7;replace q7:=eq_true q7)|(go_at_call 58;(with_reducible refine (spec_l8Var.calls (bt a0 x3_1) _ _ A8.out).mono ?_);rintro e w' ⟨rfl,⟨nd,rfl⟩⟩))
    first
    | (
      clear fin0_
      go_roundg k1
      case measure=>have:=HK1.out;omega
      case rel=>exact ⟨(wrap64 (x3_1+1)),za9,H',⟨za11⟩,za10⟩)
    | (
      clear fin1_
      go_ret
      exact ⟨za9,za10⟩)
end Go.Proofs.Yteolnmoomeenbaa.A
