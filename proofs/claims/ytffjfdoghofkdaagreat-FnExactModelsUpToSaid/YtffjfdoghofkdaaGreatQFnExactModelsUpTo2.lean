/- FnExactModelsUpTo: what its proof needs, put together by this session's program wip/merge.py out of the texts that wip/xp.py printed and of this session's own. -/
import Derived.Test.YtffjfdoghofkdaaGreatQFnExactModelsUpTo1
import Derived.Deep.RegionWith
import Derived.Test.YtffjfdoghofkdaaGreatProg
import Derived.Shelf.Abstract
import Derived.Deep.LoopGhost
import Derived.Deep.QuietTactic
import Derived.BigQuiet
import Derived.Below
import Derived.Outline
import Derived.Deep.RegionHeld3
set_option linter.unusedVariables false
set_option linter.unusedSimpArgs false
set_option linter.unusedSectionVars false
set_option maxHeartbeats 8000000
set_option maxRecDepth 100000
namespace Go.Proofs.YtffjfdoghofkdaaGreat.A
open Go.RowKit YtffjfdoghofkdaaGreat.Ext YtffjfdoghofkdaaGreatW.PrintWords YtffjfdoghofkdaaGreatW.PrintLast YtffjfdoghofkdaaGreatW.PrintMore
attribute [local go_sem] max2_int min2_int max_two min_two max_three min_three max_four min_four
mutual
def impl_size.l0:Nat→Int→List (S65)→Int→Int→Option (Int)
 | 0,_,_,_,_=>none
 | k+1,x3,x7,x8,x9=>if x9 < x8 then (if 0≤x9 then (if x9 < (x7.length:Int) then ((impl_size.f k ((rd_T65 x7 x9).f0) ((rd_T65 x7 x9).f1) ((rd_T65 x7 x9).f2)).bind fun t108004=>(impl_size.l0 k (wrap64 (x3+t108004)) x7 x8 (wrap64 (x9+1)))) else (none)) else (none)) else (some x3)
def impl_size.f:Nat→Int→ByteArray→List (S65)→Option (Int)
 | 0,_,_,_=>none
 | k+1,a0_0,a0_1,l0_2=>impl_size.l0 k 1 l0_2 (l0_2.length:Int) 0
end
theorem impl_size.mono_l:∀ k,(∀ y0 y1 y2,LeO (impl_size.f k y0 y1 y2) (impl_size.f (k+1) y0 y1 y2))∧(∀ y0 y1 y2 y3,LeO (impl_size.l0 k y0 y1 y2 y3) (impl_size.l0 (k+1) y0 y1 y2 y3))
 | 0=>⟨fun _ _ _ r h=>by simp [impl_size.f] at h,fun _ _ _ _ r h=>by simp [impl_size.l0] at h⟩
 | k+1=>by
  obtain ⟨ih0,ih1⟩:=impl_size.mono_l k
  refine ⟨?_,?_⟩
  ·intro y0 y1 y2
   unfold impl_size.f
   repeat' first
   | with_reducible first|exact ih0 _ _ _|exact ih1 _ _ _ _|exact LeO.refl _|exact LeO.none _|refine LeO.ite ?_ ?_|refine LeO.bind ?_ (fun _=>?_)
  ·intro y0 y1 y2 y3
   unfold impl_size.l0
   repeat' first
   | with_reducible first|exact ih0 _ _ _|exact ih1 _ _ _ _|exact LeO.refl _|exact LeO.none _|refine LeO.ite ?_ ?_|refine LeO.bind ?_ (fun _=>?_)
theorem impl_size.mono:∀ a0 a1 a2 k,LeO (impl_size.f k a0 a1 a2) (impl_size.f (k+1) a0 a1 a2):=by
 intro a0 a1 a2 k
 obtain ⟨ih0,ih1⟩:=impl_size.mono_l k
 exact ih0 a0 a1 a2
theorem impl_size.calls (k:Nat):∀ (a0_0:Int) (a0_1:ByteArray) (A0_2:Option Addr) (c0_2:Nat) (l0_2:List (S65)) (r:Int) (w:World) (hr0_2:Kd.C k65 w A0_2 l0_2.length l0_2) (hc0_2:l0_2.length≤c0_2) (h:impl_size.f k a0_0 a0_1 l0_2=some r),
   Calls Tryz.prog 108 #[.agg #[.int .i64 a0_0,.string a0_1,.slice A0_2 l0_2.length c0_2]] w fun e w'=>e = .returned (.int .i64 r)∧Below w.heap.size w w':=by
 induction k using Nat.strongRecOn with
 | _ k ih =>
 intro a0_0 a0_1 A0_2 c0_2 l0_2 r w hr0_2 hc0_2 h
 cases k with
 | zero=>exact absurd h (by simp [impl_size.f])
 | succ k =>
 simp only [impl_size.f] at h
 have hu65:=Tryz.underlying65
 have HR0_2:=zk hr0_2
 have HC0_2:=zk hc0_2
 clear hr0_2 hc0_2
 have HB:=zk (Below.refl w.heap.size w)
 have H:(impl_size.l0 k 1 l0_2 (l0_2.length:Int) 0)=some r:=h
 clear h
 have H':=zk H
 clear H
 go_enter Tryz.func108,Tryz.ntmps108
 go_wp2_with (first|((with_reducible refine gate_dst (N:=1) rfl ?_);refine zE (N:=1) (cs:=#[.int .i64 a0_0,.string a0_1,.slice A0_2 l0_2.length c0_2]) (t:=65) ?_;intro gb108001 hg w2 hbox hb;have n0_:=zk (below_step za3 hb);have n1_:=zk (hbox);have n2_:=zk (zs (w:=w) hg za3);have n3_:=zk (zs (w:=w) hg za3);clear HB;have HB:=n0_;have BK108001:=n1_;have GW108001:=n2_;have GE108001:=n3_;clear n0_ n1_ n2_ n3_;clear hb hbox hg;obtain ⟨hcz3_0,hcz3_1,hcz3_2,hfz3_0,hfz3_1,hfz3_2⟩:=blk3 BK108001.out))
 first|go_loopg [3,9] k (fun kq v3 v9 w'=>∃ (x3_1:Int) (x9_1:Int),v3 = .int .i64 x3_1∧v9 = .int .i64 x9_1∧Aside0 (impl_size.l0 kq x3_1 l0_2 (l0_2.length:Int) x9_1=some r)∧Aside0 (kq≤k)∧Aside0 (w'.heap[gb108001]? = some (.cells #[.int .i64 a0_0,.string a0_1,(.slice A0_2 l0_2.length c0_2)] 65 (0,0)))∧Aside0 (Below w.heap.size w w'))|(simp only [Act.put,zt,zv,zu];go_loopg [3,9] k (fun kq v3 v9 w'=>∃ (x3_1:Int) (x9_1:Int),v3 = .int .i64 x3_1∧v9 = .int .i64 x9_1∧Aside0 (impl_size.l0 kq x3_1 l0_2 (l0_2.length:Int) x9_1=some r)∧Aside0 (kq≤k)∧Aside0 (w'.heap[gb108001]? = some (.cells #[.int .i64 a0_0,.string a0_1,(.slice A0_2 l0_2.length c0_2)] 65 (0,0)))∧Aside0 (Below w.heap.size w w')))
 case atStart=>exact ⟨(1),(0),za7,za7,H',⟨Nat.le_refl _⟩,⟨za1 BK108001.out⟩,⟨za3⟩⟩
 case round =>
  clear H'
  try clear hcz3_0
  try clear hcz3_1
  try clear hcz3_2
  try clear hfz3_0
  try clear hfz3_1
  try clear hfz3_2
  obtain ⟨x3_1,x9_1,rfl,rfl,HA,HK1,BK108001,HB⟩:=hrel
  cases gk with
  | zero=>exact absurd HA.out (by simp [impl_size.l0])
  | succ k1 =>
   have H:=HA.out
   clear HA
   simp only [impl_size.l0] at H
   by_cases c4:x9_1 < (l0_2.length:Int)
   rw [if_pos c4] at H
   have c4b0:decide (x9_1 < (l0_2.length:Int))=true:=decide_eq_true c4
   clear c4
   by_cases c5:0≤x9_1
   rw [if_pos c5] at H
   have c5b0:decide (0≤x9_1)=true:=decide_eq_true c5
   clear c5
   by_cases c6:x9_1 < (l0_2.length:Int)
   ·rw [if_pos c6] at H
    have c6b0:decide (x9_1 < (l0_2.length:Int))=true:=decide_eq_true c6
    clear c6
    replace H:=zo H
    obtain ⟨t108004,A70,H⟩:=H
    replace H:(impl_size.l0 k1 (wrap64 (x3_1+t108004)) l0_2 (l0_2.length:Int) (wrap64 (x9_1+1)))=some r:=H
    have A7:=zk A70
    clear A70
    have H':=zk H
    clear H
    have p108002:0≤(x9_1:Int):=of_decide_eq_true za8
    have q108002:x9_1 < (l0_2.length:Int):=of_decide_eq_true za8
    obtain ⟨ad108002,A108002_2,c108002_2,e108002,hx108002_0,hx108002_1,hx108002_2,hl108002_2,hi108002_2⟩:=at_T65 HR0_2.out x9_1 p108002 q108002
    cases e108002
    replace hx108002_0:=zx HB.out hx108002_0
    replace hx108002_1:=zx HB.out hx108002_1
    replace hx108002_2:=zx HB.out hx108002_2
    have HR108002_2:=zk hi108002_2
    have HC108002_2:=zk hl108002_2
    clear hi108002_2 hl108002_2
    replace p108002:=eq_true p108002
    replace q108002:=eq_true q108002
    go_wp2_with (first|((with_reducible refine gate_dst (N:=5) rfl ?_);refine zE (N:=5) (cs:=#[.int .i64 0,.string (⟨#[]⟩:ByteArray),.slice none 0 0]) (t:=65) ?_;intro gb108003 hg w8 hbox hb;have n0_:=zk (zb BK108001.out hb);have n1_:=zk (below_step za3 hb);have n2_:=zk (hbox);have n3_:=zk (zs (w:=w) hg za3);have n4_:=zk (zs (w:=w) hg za3);have n5_:=zk ((by rw [hg];exact Nat.ne_of_lt (zl BK108001.out):gb108001 ≠ gb108003));have n6_:=zk ((by rw [hg];exact Nat.ne_of_gt (zl BK108001.out):gb108003 ≠ gb108001));clear BK108001;clear HB;have BK108001:=n0_;have HB:=n1_;have BK108003:=n2_;have GW108003:=n3_;have GE108003:=n4_;have NB108001_108003:=n5_;have NB108003_108001:=n6_;clear n0_ n1_ n2_ n3_ n4_ n5_ n6_;clear hb hbox hg;have hnb9:=NB108003_108001.out;have hnc9:=NB108001_108003.out;obtain ⟨hcz10_0,hcz10_1,hcz10_2,hfz10_0,hfz10_1,hfz10_2⟩:=blk3 BK108003.out)|((with_reducible refine gate_callee (f:=108) rfl ?_);refine goesL_ (some 15) rfl rfl Tryz.func108 (by kernel_rfl) rfl #[.agg #[.int .i64 ((rd_T65 l0_2 x9_1).f0),.string ((rd_T65 l0_2 x9_1).f1),.slice A108002_2 ((rd_T65 l0_2 x9_1).f2).length c108002_2]] rfl za4 ?_;(with_reducible refine (ih k1 za15 ((rd_T65 l0_2 x9_1).f0) ((rd_T65 l0_2 x9_1).f1) _ _ ((rd_T65 l0_2 x9_1).f2) t108004 _ ?side1 ?side2 A7.out).mono ?_);(case side1=>exact Kd.C_below HR108002_2.out za3);(case side2=>exact HC108002_2.out);rintro e w11 ⟨rfl,hb⟩;refine ⟨_,rfl,?_⟩;have n0_:=zk (blk_below (g:=gb108001) (o:=.cells #[.int .i64 a0_0,.string a0_1,.slice (some ad108002) l0_2.length c0_2] 65 (0,0)) (by (with_reducible repeat (first|refine blk_drewN ?_ _|refine blk_drew ?_|refine blk_alloc ?_ _));refine blk_far ?_ NB108001_108003.out _;(with_reducible repeat (first|refine blk_drewN ?_ _|refine blk_drew ?_|refine blk_alloc ?_ _));refine blk_far ?_ NB108001_108003.out _;(with_reducible repeat (first|refine blk_drewN ?_ _|refine blk_drew ?_|refine blk_alloc ?_ _));refine blk_far ?_ NB108001_108003.out _;(with_reducible repeat (first|refine blk_drewN ?_ _|refine blk_drew ?_|refine blk_alloc ?_ _));exact BK108001.out) hb);have n1_:=zk (blk_below (g:=gb108003) (o:=.cells #[.int .i64 ((rd_T65 l0_2 x9_1).f0),.string ((rd_T65 l0_2 x9_1).f1),.slice A108002_2 ((rd_T65 l0_2 x9_1).f2).length c108002_2] 65 (0,0)) (by (with_reducible repeat (first|refine blk_drewN ?_ _|refine blk_drew ?_|refine blk_alloc ?_ _));refine blk_put (cs:=#[.int .i64 ((rd_T65 l0_2 x9_1).f0),.string ((rd_T65 l0_2 x9_1).f1),.slice none 0 0]) ?_ 2 _ rfl;(with_reducible repeat (first|refine blk_drewN ?_ _|refine blk_drew ?_|refine blk_alloc ?_ _));refine blk_put (cs:=#[.int .i64 ((rd_T65 l0_2 x9_1).f0),.string (⟨#[]⟩:ByteArray),.slice none 0 0]) ?_ 1 _ rfl;(with_reducible repeat (first|refine blk_drewN ?_ _|refine blk_drew ?_|refine blk_alloc ?_ _));refine blk_put (cs:=#[.int .i64 0,.string (⟨#[]⟩:ByteArray),.slice none 0 0]) ?_ 0 _ rfl;(with_reducible repeat (first|refine blk_drewN ?_ _|refine blk_drew ?_|refine blk_alloc ?_ _));exact BK108003.out) hb);have n2_:=zk (below_step za3 hb);clear BK108001;clear BK108003;clear HB;have BK108001:=n0_;have BK108003:=n1_;have HB:=n2_;clear n0_ n1_ n2_;(try clear hb);(try clear hb2);(try clear hk);(try clear hi)))
    go_roundg k1
    case measure=>have:=HK1.out;omega
    case rel=>exact ⟨(wrap64 (x3_1+t108004)),(wrap64 (x9_1+1)),za7,za7,H',⟨za15⟩,⟨za1 BK108001.out⟩,⟨za3⟩⟩
   ·rw [if_neg c6] at H
    exact absurd H (by simp)
   ·rw [if_neg c5] at H
    exact absurd H (by simp)
   ·rw [if_neg c4] at H
    have c4b0:decide (x9_1 < (l0_2.length:Int))=false:=decide_eq_false c4
    clear c4
    obtain rfl:=zi H
    go_wp2
    go_ret
    exact ⟨za6,za3⟩
end Go.Proofs.YtffjfdoghofkdaaGreat.A
namespace Go.Proofs.YtffjfdoghofkdaaGreat.Ext
open Go Go.RowKit YtffjfdoghofkdaaGreatW.PrintWords YtffjfdoghofkdaaGreatW.PrintLast YtffjfdoghofkdaaGreat.A
/-! How many nodes. -/
theorem IsRx.len {x:S65} {t:Rx} (h:IsRx x t):x.f2.length≤2:=by cases h <;> simp
theorem size_of_rx {x:S65} {t:Rx} (h:IsRx x t):t.size≤1000000→∃ k,impl_size.f k x.f0 x.f1 x.f2=some (t.size:Int):=by
 have one:∀ (k:Int) (s:ByteArray),∃ q,impl_size.f q k s []=some 1:=fun k s=>⟨2,by simp [impl_size.f,impl_size.l0]⟩
 have step1:∀ (k:Int) (s:ByteArray) (y:S65) (n:Nat),n≤1000000→(∃ q,impl_size.f q y.f0 y.f1 y.f2=some (n:Int))→∃ q,impl_size.f q k s [y]=some ((1+n:Nat):Int):=by
  intro k s y n hn ⟨q,hq⟩
  refine ⟨q+3,?_⟩
  have h1:impl_size.f (q+1) y.f0 y.f1 y.f2=some (n:Int):=at_rounds (impl_size.mono _ _ _) (Nat.le_succ q) hq
  have e:wrap64 (1+(n:Int))=((1+n:Nat):Int):=by rw [show (1:Int)+(n:Int)=((1+n:Nat):Int) by omega];exact wrap_nat _ (by omega)
  have e0:wrap64 (0+1)=1:=by unfold wrap64;decide
  rw [impl_size.f,impl_size.l0,if_pos (show (0:Int) < (([y]:List S65).length:Int) by simp),if_pos (Int.le_refl 0),if_pos (show (0:Int) < (([y]:List S65).length:Int) by simp),show rd_T65 [y] 0=y from rfl,h1,Option.bind_some,e0,e,impl_size.l0,if_neg (by simp)]
 have step2:∀ (k:Int) (s:ByteArray) (y v:S65) (n m:Nat),n+m≤1000000→(∃ q,impl_size.f q y.f0 y.f1 y.f2=some (n:Int))→(∃ q,impl_size.f q v.f0 v.f1 v.f2=some (m:Int))→∃ q,impl_size.f q k s [y,v]=some ((1+n+m:Nat):Int):=by
  intro k s y v n m hn ⟨q,hq⟩ ⟨p,hp⟩
  refine ⟨q+p+4,?_⟩
  have h1:impl_size.f (q+p+2) y.f0 y.f1 y.f2=some (n:Int):=at_rounds (impl_size.mono _ _ _) (by omega) hq
  have h2:impl_size.f (q+p+1) v.f0 v.f1 v.f2=some (m:Int):=at_rounds (impl_size.mono _ _ _) (by omega) hp
  have e:wrap64 (1+(n:Int))=((1+n:Nat):Int):=by rw [show (1:Int)+(n:Int)=((1+n:Nat):Int) by omega];exact wrap_nat _ (by omega)
  have e2:wrap64 (((1+n:Nat):Int)+(m:Int))=((1+n+m:Nat):Int):=by rw [← Int.natCast_add];exact wrap_nat _ (by omega)
  have e0:wrap64 (0+1)=1:=by unfold wrap64;decide
  have e1:wrap64 (1+1)=2:=by unfold wrap64;decide
  rw [impl_size.f,impl_size.l0,if_pos (show (0:Int) < (([y,v]:List S65).length:Int) by simp),if_pos (Int.le_refl 0),if_pos (show (0:Int) < (([y,v]:List S65).length:Int) by simp),show rd_T65 [y,v] 0=y from rfl,h1,Option.bind_some,e0,e,impl_size.l0,if_pos (show (1:Int) < (([y,v]:List S65).length:Int) by simp),if_pos (by decide),if_pos (show (1:Int) < (([y,v]:List S65).length:Int) by simp),show rd_T65 [y,v] 1=v from rfl,h2,Option.bind_some,e1,e2,impl_size.l0,if_neg (by simp)]
 induction h with
 | none s=>intro _;exact one _ _
 | empty s=>intro _;exact one _ _
 | letter s=>intro _;exact one _ _
 | any s=>intro _;exact one _ _
 | cat s hx hy ihx ihy=>intro hs;simp only [Rx.size] at hs;exact step2 _ _ _ _ _ _ (by omega) (ihx (by omega)) (ihy (by omega))
 | or s hx hy ihx ihy=>intro hs;simp only [Rx.size] at hs;exact step2 _ _ _ _ _ _ (by omega) (ihx (by omega)) (ihy (by omega))
 | and s hx hy ihx ihy=>intro hs;simp only [Rx.size] at hs;exact step2 _ _ _ _ _ _ (by omega) (ihx (by omega)) (ihy (by omega))
 | star s hx ih=>intro hs;simp only [Rx.size] at hs;exact step1 _ _ _ _ (by omega) (ih (by omega))
 | not s hx ih=>intro hs;simp only [Rx.size] at hs;exact step1 _ _ _ _ (by omega) (ih (by omega))
theorem size_calls {x:S65} {t:Rx} (h:IsRx x t) (ht:t.size≤1000000) (A:Option Addr) (c:Nat) (W:World) (hc:x.f2.length≤c) (hC:Kd.C k65 W A x.f2.length x.f2) :
  Calls Tryz.prog 108 #[.agg #[.int .i64 x.f0,.string x.f1,.slice A x.f2.length c]] W fun e w'=>e = .returned (.int .i64 (t.size:Int))∧Below W.heap.size W w':=by
 obtain ⟨k,hk⟩:=size_of_rx h ht
 exact impl_size.calls k _ _ _ _ _ _ W hC hc hk
/-! The truth at each node. -/
def Fits (s:ByteArray) (T:Nat→Nat→Nat→Bool):Rx→Nat→Prop
 | .cat a b,id=>(∀ i j,T id i j=mt s (.cat a b) i j)∧Fits s T a (id+1)∧Fits s T b (id+1+a.size)
 | .or a b,id=>(∀ i j,T id i j=mt s (.or a b) i j)∧Fits s T a (id+1)∧Fits s T b (id+1+a.size)
 | .and a b,id=>(∀ i j,T id i j=mt s (.and a b) i j)∧Fits s T a (id+1)∧Fits s T b (id+1+a.size)
 | .star a,id=>(∀ i j,T id i j=mt s (.star a) i j)∧Fits s T a (id+1)
 | .not a,id=>(∀ i j,T id i j=mt s (.not a) i j)∧Fits s T a (id+1)
 | .none,id=>∀ i j,T id i j=mt s .none i j
 | .empty,id=>∀ i j,T id i j=mt s .empty i j
 | .any,id=>∀ i j,T id i j=mt s .any i j
 | .letter l,id=>∀ i j,T id i j=mt s (.letter l) i j
theorem Fits.here {s:ByteArray} {T:Nat→Nat→Nat→Bool} {t:Rx} {id:Nat} (h:Fits s T t id):∀ i j,T id i j=mt s t i j:=by
 cases t <;> first|exact h|exact h.1
theorem Fits.congr {s:ByteArray} {T T':Nat→Nat→Nat→Bool} : ∀ {t:Rx} {id:Nat},Fits s T t id→(∀ a,id≤a→a < id+t.size→T' a=T a)→Fits s T' t id:=by
 intro t
 induction t with
 | none=>intro id h e;intro i j;rw [e id (Nat.le_refl _) (by simp [Rx.size])];exact h i j
 | empty=>intro id h e;intro i j;rw [e id (Nat.le_refl _) (by simp [Rx.size])];exact h i j
 | any=>intro id h e;intro i j;rw [e id (Nat.le_refl _) (by simp [Rx.size])];exact h i j
 | letter l=>intro id h e;intro i j;rw [e id (Nat.le_refl _) (by simp [Rx.size])];exact h i j
 | cat a b iha ihb=>intro id h e;simp only [Rx.size] at e;exact ⟨fun i j=>za31,iha h.2.1 (fun q h1 h2=>e q (by omega) (by omega)),ihb h.2.2 (fun q h1 h2=>e q (by omega) (by omega))⟩
 | or a b iha ihb=>intro id h e;simp only [Rx.size] at e;exact ⟨fun i j=>za31,iha h.2.1 (fun q h1 h2=>e q (by omega) (by omega)),ihb h.2.2 (fun q h1 h2=>e q (by omega) (by omega))⟩
 | and a b iha ihb=>intro id h e;simp only [Rx.size] at e;exact ⟨fun i j=>za31,iha h.2.1 (fun q h1 h2=>e q (by omega) (by omega)),ihb h.2.2 (fun q h1 h2=>e q (by omega) (by omega))⟩
 | star a iha=>intro id h e;simp only [Rx.size] at e;exact ⟨fun i j=>za31,iha h.2 (fun q h1 h2=>e q (by omega) (by omega))⟩
 | not a iha=>intro id h e;simp only [Rx.size] at e;exact ⟨fun i j=>za31,iha h.2 (fun q h1 h2=>e q (by omega) (by omega))⟩
theorem Fits.exist (s:ByteArray):∀ (t:Rx) (id:Nat),∃ T,Fits s T t id:=by
 intro t
 induction t with
 | none=>intro id;exact ⟨fun _=>mt s .none,fun _ _=>rfl⟩
 | empty=>intro id;exact ⟨fun _=>mt s .empty,fun _ _=>rfl⟩
 | any=>intro id;exact ⟨fun _=>mt s .any,fun _ _=>rfl⟩
 | letter l=>intro id;exact ⟨fun _=>mt s (.letter l),fun _ _=>rfl⟩
 | cat a b iha ihb =>
  intro id
  obtain ⟨Ta,ha⟩:=iha (id+1)
  obtain ⟨Tb,hb⟩:=ihb (id+1+a.size)
  refine ⟨fun q=>if q=id then mt s (.cat a b) else if q < id+1+a.size then Ta q else Tb q,fun i j=>by simp,ha.congr fun q h1 h2=>?_,hb.congr fun q h1 h2=>?_⟩
  ·simp only [if_neg (show ¬ q=id by omega),if_pos (show q < id+1+a.size by omega)]
  ·simp only [if_neg (show ¬ q=id by omega),if_neg (show ¬ q < id+1+a.size by omega)]
 | or a b iha ihb =>
  intro id
  obtain ⟨Ta,ha⟩:=iha (id+1)
  obtain ⟨Tb,hb⟩:=ihb (id+1+a.size)
  refine ⟨fun q=>if q=id then mt s (.or a b) else if q < id+1+a.size then Ta q else Tb q,fun i j=>by simp,ha.congr fun q h1 h2=>?_,hb.congr fun q h1 h2=>?_⟩
  ·simp only [if_neg (show ¬ q=id by omega),if_pos (show q < id+1+a.size by omega)]
  ·simp only [if_neg (show ¬ q=id by omega),if_neg (show ¬ q < id+1+a.size by omega)]
 | and a b iha ihb =>
  intro id
  obtain ⟨Ta,ha⟩:=iha (id+1)
  obtain ⟨Tb,hb⟩:=ihb (id+1+a.size)
  refine ⟨fun q=>if q=id then mt s (.and a b) else if q < id+1+a.size then Ta q else Tb q,fun i j=>by simp,ha.congr fun q h1 h2=>?_,hb.congr fun q h1 h2=>?_⟩
  ·simp only [if_neg (show ¬ q=id by omega),if_pos (show q < id+1+a.size by omega)]
  ·simp only [if_neg (show ¬ q=id by omega),if_neg (show ¬ q < id+1+a.size by omega)]
 | star a iha =>
  intro id
  obtain ⟨Ta,ha⟩:=iha (id+1)
  exact ⟨fun q=>if q=id then mt s (.star a) else Ta q,fun i j=>by simp,ha.congr fun q h1 h2=>by simp only [if_neg (show ¬ q=id by omega)]⟩
 | not a iha =>
  intro id
  obtain ⟨Ta,ha⟩:=iha (id+1)
  exact ⟨fun q=>if q=id then mt s (.not a) else Ta q,fun i j=>by simp,ha.congr fun q h1 h2=>by simp only [if_neg (show ¬ q=id by omega)]⟩
section
variable (w0 : World) (g b : Nat) (hgb : g ≠ b) (hg : w0.heap.size ≤ g) (hb : w0.heap.size ≤ b) (s : ByteArray) (n : Nat) (hn : n ≤ 401) (hsn : s.size + 1 = n) (z : Nat) (hz : z ≤ 16) (T : Nat → Nat → Nat → Bool)
include hgb hg hb hn hsn hz
theorem mc_of (x:S65) (t:Rx) (A:Option Addr) (c id len:Nat) (hid:id+t.size≤z) (hT:∀ i j,T id i j=mt s t i j)
  (hf:∀ (i j:Nat) (m:List Int) (W:World),i≤j→j < n→j - i < len→m.length=z * n * n→MSt g b s n m W→Gd n T m (RgF id t.size (j - i))→Below w0.heap.size w0 W →
   Calls Tryz.prog 132 #[.pointer (some ⟨g,0,none⟩),.agg #[.int .i64 x.f0,.string x.f1,.slice A x.f2.length c],.int .i64 (id:Int),.int .i64 (i:Int),.int .i64 (j:Int)] W (MPost w0 W g b s n T m (RgF id t.size (j - i)) (mt s t i j))) :
  MC w0 g b s n z T t x.f0 x.f1 A x.f2.length c id len:=by
 intro i j ids iv jv m W e1 e2 e3 hij hj hlen hl hM hG hB
 subst e1 e2 e3
 have:=t.size_pos
 exact match_of_find w0 g b hgb hg hb s n hn z hz T x A c id t.size i j (by omega) t.size_pos hij hj (mt s t i j) (hT i j) (fun m' W' h1 h2 h3 h4=>hf i j m' W' hij hj hlen h1 h2 h3 h4) m W hl hM hG hB
theorem match_all {x:S65} {t:Rx} (h:IsRx x t):∀ (A:Option Addr) (c id:Nat),Kd.C k65 w0 A x.f2.length x.f2→x.f2.length≤c→Fits s T t id→id+t.size≤z→MC w0 g b s n z T t x.f0 x.f1 A x.f2.length c id n:=by
 induction h with
 | none bs =>
  intro A c id hC hc hF hid
  exact mc_of w0 g b hgb hg hb s n hn hsn z hz T ⟨1,bs,[]⟩ .none A c id n hid hF.here fun i j m W hij hj _ hl hM hG hB=>find_leaf w0 g b hgb hg hb s n hn hsn z hz T bs A c id i j hij hj m W hl hM hB 1 _ (.inl ⟨rfl,rfl⟩) _ hG
 | empty bs =>
  intro A c id hC hc hF hid
  exact mc_of w0 g b hgb hg hb s n hn hsn z hz T ⟨2,bs,[]⟩ .empty A c id n hid hF.here fun i j m W hij hj _ hl hM hG hB=>find_leaf w0 g b hgb hg hb s n hn hsn z hz T bs A c id i j hij hj m W hl hM hB 2 _ (.inr (.inl ⟨rfl,rfl⟩)) _ hG
 | letter bs =>
  intro A c id hC hc hF hid
  exact mc_of w0 g b hgb hg hb s n hn hsn z hz T ⟨3,bs,[]⟩ (.letter bs) A c id n hid hF.here fun i j m W hij hj _ hl hM hG hB=>find_leaf w0 g b hgb hg hb s n hn hsn z hz T bs A c id i j hij hj m W hl hM hB 3 _ (.inr (.inr (.inr ⟨rfl,rfl⟩))) _ hG
 | any bs =>
  intro A c id hC hc hF hid
  exact mc_of w0 g b hgb hg hb s n hn hsn z hz T ⟨4,bs,[]⟩ .any A c id n hid hF.here fun i j m W hij hj _ hl hM hG hB=>find_leaf w0 g b hgb hg hb s n hn hsn z hz T bs A c id i j hij hj m W hl hM hB 4 _ (.inr (.inr (.inl ⟨rfl,rfl⟩))) _ hG
 | @cat bs x y t u hx hy ihx ihy =>
  intro A c id hC hc hF hid
  simp only [Rx.size] at hid
  exact mc_of w0 g b hgb hg hb s n hn hsn z hz T ⟨5,bs,[x,y]⟩ (.cat t u) A c id n (by simp only [Rx.size];omega) hF.here fun i j m W hij hj _ hl hM hG hB=>find_cat w0 g b hgb hg hb s n hn hsn z hz T bs A c id i j hij hj m W hl hM hB x y t u hC (by omega)
   (fun A2 c2 h1 h2=>ihx A2 c2 (id+1) h2 h1 hF.2.1 (by omega)) (fun A2 c2 h1 h2=>ihy A2 c2 (id+1+t.size) h2 h1 hF.2.2 (by omega)) (fun A2 c2 W' h1 h2=>size_calls hx (by omega) A2 c2 W' h1 h2) hG
 | @or bs x y t u hx hy ihx ihy =>
  intro A c id hC hc hF hid
  simp only [Rx.size] at hid
  exact mc_of w0 g b hgb hg hb s n hn hsn z hz T ⟨6,bs,[x,y]⟩ (.or t u) A c id n (by simp only [Rx.size];omega) hF.here fun i j m W hij hj _ hl hM hG hB=>find_or w0 g b hgb hg hb s n hn hsn z hz T bs A c id i j hij hj m W hl hM hB x y t u hC (by omega)
   (fun A2 c2 h1 h2=>ihx A2 c2 (id+1) h2 h1 hF.2.1 (by omega)) (fun A2 c2 h1 h2=>ihy A2 c2 (id+1+t.size) h2 h1 hF.2.2 (by omega)) (fun A2 c2 W' h1 h2=>size_calls hx (by omega) A2 c2 W' h1 h2) hG
 | @and bs x y t u hx hy ihx ihy =>
  intro A c id hC hc hF hid
  simp only [Rx.size] at hid
  exact mc_of w0 g b hgb hg hb s n hn hsn z hz T ⟨7,bs,[x,y]⟩ (.and t u) A c id n (by simp only [Rx.size];omega) hF.here fun i j m W hij hj _ hl hM hG hB=>find_and w0 g b hgb hg hb s n hn hsn z hz T bs A c id i j hij hj m W hl hM hB x y t u hC (by omega)
   (fun A2 c2 h1 h2=>ihx A2 c2 (id+1) h2 h1 hF.2.1 (by omega)) (fun A2 c2 h1 h2=>ihy A2 c2 (id+1+t.size) h2 h1 hF.2.2 (by omega)) (fun A2 c2 W' h1 h2=>size_calls hx (by omega) A2 c2 W' h1 h2) hG
 | @not bs x t hx ih =>
  intro A c id hC hc hF hid
  simp only [Rx.size] at hid
  exact mc_of w0 g b hgb hg hb s n hn hsn z hz T ⟨9,bs,[x]⟩ (.not t) A c id n (by simp only [Rx.size];omega) hF.here fun i j m W hij hj _ hl hM hG hB=>find_not w0 g b hgb hg hb s n hn hsn z hz T bs A c id i j hij hj m W hl hM hB x t hC (by omega)
   (fun A2 c2 h1 h2=>ih A2 c2 (id+1) h2 h1 hF.2 (by omega)) hG
 | @star bs x t hx ih =>
  intro A c id hC hc hF hid
  simp only [Rx.size] at hid
  have key:∀ len,MC w0 g b s n z T (.star t) 8 bs A 1 c id len:=by
   intro len
   induction len with
   | zero=>intro i j ids iv jv m W _ _ _ _ _ h;omega
   | succ len ihl =>
    refine mc_of w0 g b hgb hg hb s n hn hsn z hz T ⟨8,bs,[x]⟩ (.star t) A c id (len+1) (by simp only [Rx.size];omega) hF.here fun i j m W hij hj hle hl hM hG hB=>find_star w0 g b hgb hg hb s n hn hsn z hz T bs A c id i j hij hj m W hl hM hB x t hC (by omega) (fun A2 c2 h1 h2=>ih A2 c2 (id+1) h2 h1 hF.2 (by omega)) ?_ hG
    intro i' j' ids iv jv m' W' h1 h2 h3 h4 h5 h6
    exact ihl i' j' ids iv jv m' W' h1 h2 h3 h4 h5 (by omega)
  exact key n
end
def impl_matches.f (a0_0:Int) (a0_1:ByteArray) (l0_2:List S65) (a1:ByteArray):Option Bool:=rxMatch a0_0 a0_1 l0_2 a1
theorem made_cells (m:Nat):madeCells #[Value.int .i8 0] m=(nums .i8 (List.replicate m 0)).toArray:=by
 simp only [madeCells,nums]
 apply Array.ext
 ·simp
 ·intro i h1 h2;simp [Nat.mod_one]
theorem mst_made {W:World} {g:Nat} {s:ByteArray} {N:Nat} (hX:W.heap[g]? = some (.cells #[.string s,.int .i64 ((s.size:Int)+1),.slice none 0 0] 120 (0,0))) :
  MSt g W.heap.size s (s.size+1) (List.replicate N 0) ((W.setCell ⟨g,2,none⟩ (.slice (some ⟨W.heap.size,0,none⟩) N N)).alloc (.cells (madeCells #[.int .i8 0] N) 137)):=by
 refine ⟨?_,?_⟩
 ·rw [List.length_replicate]
  refine blk_alloc (blk_put hX 2 _ ?_) _
  simp
 ·rw [← made_cells]
  have:=blk_new (W.setCell ⟨g,2,none⟩ (.slice (some ⟨W.heap.size,0,none⟩) N N)) (.cells (madeCells #[.int .i8 0] N) 137)
  simpa using this
-- EXT loop.example/g00582/impl.matches making
set_option maxHeartbeats 4000000 in
theorem impl_matches.calls (a0_0:Int) (a0_1:ByteArray) (A0_2:Option Addr) (c0_2:Nat) (l0_2:List S65) (a1:ByteArray) (r:Bool) (w:World) (hr0_2:Kd.C k65 w A0_2 l0_2.length l0_2) (hc0_2:l0_2.length≤c0_2) (h:impl_matches.f a0_0 a0_1 l0_2 a1=some r) :
  Calls Tryz.prog 78 #[.agg #[.int .i64 a0_0,.string a0_1,.slice A0_2 l0_2.length c0_2],.string a1] w fun e w'=>e = .returned (.bool r)∧Below w.heap.size w w':=by
 obtain ⟨t,hx,h16,h400,hr⟩:=rxMatch_some h
 subst hr
 have ht0:=t.size_pos
 have hv1:t.size * (a1.size+1)≤16 * 401:=Nat.mul_le_mul h16 (by omega)
 have hv2:t.size * (a1.size+1) * (a1.size+1)≤16 * 401 * 401:=Nat.mul_le_mul hv1 (by omega)
 have HR:=zk hr0_2
 have HC:=zk hc0_2
 have HX:=zk hx
 have HZ:=zk (fun (W':World) (hB':Below w.heap.size w W')=>size_calls hx (by omega) A0_2 c0_2 W' hc0_2 (Kd.C_below hr0_2 hB'))
 have H16:=zk h16
 have H400:=zk h400
 clear hr0_2 hc0_2 h hx
 have HB:=zk (Below.refl w.heap.size w)
 go_enter Tryz.func78,Tryz.ntmps78
 go_upto_region 2 with (first
  | ((with_reducible refine gate_dst (N:=2) rfl ?_);refine zE (N:=2) (cs:=#[.int .i64 a0_0,.string a0_1,.slice A0_2 l0_2.length c0_2]) (t:=65) ?_;intro gr hgr w3 hbox hb3;have X3:=zk hbox;have B3:=zk (below_step HB.out hb3);have G3:=zk (show w.heap.size≤gr by omega);clear hb3 hbox hgr)
  | ((with_reducible refine gate_dst (N:=11) rfl ?_);refine zE (N:=11) (cs:=#[.string a1,.int .i64 ((a1.size:Int)+1),.slice none 0 0]) (t:=120) ?_;intro gm hgm w4 hbox hb4;have X4:=zk hbox;have Y4:=zk (blk_below X3.out hb4);have B4:=zk (below_step B3.out hb4);have G4:=zk (show w.heap.size≤gm by have:=B3.out.size;omega);have N4:=zk (show gr ≠ gm by have:=blk_lt X3.out;omega);clear hb4 hbox hgm))
 have v1:IntKind.i64.wrap (IntKind.i64.wrap ((t.size:Int) * ((a1.size:Int)+1)) * ((a1.size:Int)+1))=((t.size * (a1.size+1) * (a1.size+1):Nat):Int):=by
  rw [show (t.size:Int) * ((a1.size:Int)+1)=((t.size * (a1.size+1):Nat):Int) by simp,iwrap_nat _ (by omega),show ((t.size * (a1.size+1):Nat):Int) * ((a1.size:Int)+1)=((t.size * (a1.size+1) * (a1.size+1):Nat):Int) by simp]
  exact iwrap_nat _ (by omega)
 have hmk:∀ W:World,(Instr.makeSlice 118 (.int .i64 (IntKind.i64.wrap (IntKind.i64.wrap ((t.size:Int) * ((a1.size:Int)+1)) * ((a1.size:Int)+1)))) (.int .i64 (IntKind.i64.wrap (IntKind.i64.wrap ((t.size:Int) * ((a1.size:Int)+1)) * ((a1.size:Int)+1))))).run Tryz.prog W = .ok (.slice (some ⟨W.heap.size,0,none⟩) (t.size * (a1.size+1) * (a1.size+1)) (t.size * (a1.size+1) * (a1.size+1))) (W.alloc (.cells (madeCells #[.int .i8 0] (t.size * (a1.size+1) * (a1.size+1))) 137)):=fun W=>by
  rw [v1]
  have:=print_make_int (P:=Tryz.prog) 118 137 (.int .i8 0) 1 Tryz.underlying118 (by kernel_rfl) rfl (by decide) ((t.size * (a1.size+1) * (a1.size+1):Nat):Int) (by omega) (by simp only [Int.toNat_natCast];omega) W
  simpa only [Int.toNat_natCast] using this
 clear v1
 go_cut [] (fun wc=>∃ b:Nat,Aside0 (MSt gm b a1 (a1.size+1) (List.replicate (t.size * (a1.size+1) * (a1.size+1)) 0) wc)∧Aside0 (w.heap.size≤b∧gm ≠ b)∧Aside0 (wc.heap[gr]? = some (.cells #[.int .i64 a0_0,.string a0_1,.slice A0_2 l0_2.length c0_2] 65 (0,0)))∧Aside0 (Below w.heap.size w wc))
 case first =>
  obtain ⟨y0,y1,y2,g0,g1,g2⟩:=blk3 Y4.out
  obtain ⟨z0,z1,z2,f0,f1,f2⟩:=blk3 X4.out
  clear hv1 hv2
  go_region_with (go_at_call 108;(with_reducible refine (HZ.out _ (by first|exact B4.out|exact pw_below_drewN B4.out _|exact below_drew B4.out)).mono ?_);rintro e w5 ⟨rfl,hb5⟩;have X5:=zk (show w5.heap[gm]? = _ by first|exact blk_below X4.out hb5|exact blk_below (blk_drew X4.out) hb5|exact blk_below (blk_drewN X4.out _) hb5);have Y5:=zk (show w5.heap[gr]? = _ by first|exact blk_below Y4.out hb5|exact blk_below (blk_drew Y4.out) hb5|exact blk_below (blk_drewN Y4.out _) hb5);have B5:=zk (show Below w.heap.size w w5 by first|exact below_step B4.out hb5|exact below_step (below_drew B4.out) hb5|exact below_step (pw_below_drewN B4.out _) hb5);clear hb5;obtain ⟨s0,s1,s2,t0,t1,t2⟩:=blk3 X5.out;have l5:gm < w5.heap.size:=blk_lt X5.out)
  all_goals
   try go_wp2
   go_meet
   case rel=>exact ⟨w5.heap.size,⟨mst_made X5.out⟩,⟨B5.out.size,by have:=blk_lt X5.out;omega⟩,⟨blk_alloc (blk_far Y5.out N4.out _) _⟩,⟨below_alloc (B5.out.setCell G4.out _) _⟩⟩
 case rest =>
  clear X3 B3 G3 X4 Y4 B4 N4 hmk HB hv1 hv2 HZ
  obtain ⟨b,HM,HN,XG,HB⟩:=hcut
  obtain ⟨T,hT⟩:=Fits.exist a1 t 0
  obtain ⟨y0,y1,y2,g0,g1,g2⟩:=blk3 XG.out
  have HC1:=zk (match_all w gm b HN.out.2 G4.out HN.out.1 a1 (a1.size+1) (by have:=H400.out;omega) rfl t.size H16.out T HX.out A0_2 c0_2 0 HR.out HC.out hT (by omega) 0 a1.size 0 0 (a1.size:Int) _ wc rfl rfl rfl (Nat.zero_le _) (by omega) (by omega) (by simp) HM.out (fun a i j _ _ _ => .inl (by
   rw [List.getD_eq_getElem?_getD]
   by_cases h:ix (a1.size+1) a i j < t.size * (a1.size+1) * (a1.size+1)
   ·simp [h]
   ·rw [List.getElem?_eq_none (by simpa using h)];rfl)) HB.out)
  go_wp2_with (go_at_call 109;(with_reducible refine HC1.out.mono ?_);rintro e w9 ⟨rfl,m9,hl9,M9,G9,S9,K9,B9⟩)
  go_ret
  exact ⟨rfl,B9⟩
end Go.Proofs.YtffjfdoghofkdaaGreat.Ext
namespace Go.Proofs.YtffjfdoghofkdaaGreat.Ext
open Go.RowKit YtffjfdoghofkdaaGreatW.PrintWords YtffjfdoghofkdaaGreatW.PrintLast YtffjfdoghofkdaaGreat.A
def repl (G:Int→ByteArray × Bool):List Int→List Int→List Int
 | [],acc=>acc
 | c :: cs,acc =>
  if (acc ++ (if (G c).2=true then bytesOf (G c).1 else [c])).length > 1048576 then [] else repl G cs (acc ++ (if (G c).2=true then bytesOf (G c).1 else [c]))
def replB (G:Int→ByteArray × Bool) (s:ByteArray):ByteArray:=strOfNums (repl G (bytesOf s) [])
theorem infou8:(Tryz.prog.info? 5).map (fun i=>(i.zero,i.size,i.bytes))=some (some (.int .u8 0),1,1):=by kernel_rfl
theorem repl_at (G:Int→ByteArray × Bool) (s:ByteArray) (x:Int) (acc:List Int) (h0:0≤x) (h1:x < s.size) :
  repl G ((bytesOf s).drop x.toNat) acc=if (acc ++ (if (G (bt s x)).2=true then bytesOf (G (bt s x)).1 else [bt s x])).length > 1048576 then [] else repl G ((bytesOf s).drop (x.toNat+1)) (acc ++ (if (G (bt s x)).2=true then bytesOf (G (bt s x)).1 else [bt s x])):=by
 have hl:x.toNat < (bytesOf s).length:=by rw [bytesOf_length];omega
 have e:(bytesOf s)[x.toNat]=bt s x:=by
  rw [← rd_bytesOf]
  simp [rd,hl]
 rw [List.drop_eq_getElem_cons hl,e]
 rfl
theorem replB_of {G:Int→ByteArray × Bool} {s:ByteArray} {a:List Int} (h:a=repl G (bytesOf s) []) (h':a = []):replB G s=⟨#[]⟩:=by
 unfold replB
 rw [← h,h']
 rfl
set_option maxHeartbeats 4000000 in
theorem replaced_any (G:Int→ByteArray × Bool) (g:Nat) (lb:Array Value) (eg:∀ args w,(callFunc g args).run Tryz.prog w = .ok (.enter g args) w) (s:ByteArray) (w:World)
  (hs:s.size≤9223372036854775807) (hB:∀ c,(G c).1.size≤1048576)
  (hG:∀ (W:World) (c:Int),Below w.heap.size w W→0≤c→c≤255→Calls Tryz.prog g (#[.int .u8 c] ++ lb) W fun e W'=>e = .returned (.tuple #[.string (G c).1,.bool (G c).2])∧Below W.heap.size W W') :
  Calls Tryz.prog 104 #[.string s,.func (.func g) #[] lb] w fun e w'=>e = .returned (.string (replB G s))∧Below w.heap.size w w':=by
 have HS:=zk hs
 have HBd:=zk hB
 have HG:=zk hG
 clear hB hG
 go_enter Tryz.func104,Tryz.ntmps104
 go_wp2
 first
  | go_loopg [5,6] s.size (fun gk v5 v6 wr=>∃ (x:Int) (acc:List Int),v6 = .int .i64 x∧Aside0 (0≤x)∧Aside0 (x≤s.size)∧Aside0 ((s.size:Int) - x≤gk)∧Aside0 (repl G ((bytesOf s).drop x.toNat) acc=repl G (bytesOf s) [])∧Aside0 (acc.length≤1048576)∧Aside0 (wr.ownsRow w.heap.size 5 1 v5 acc.length (nums .u8 acc))∧Aside0 (Below w.heap.size w wr))
 case atStart=>exact ⟨0,[],rfl,⟨by omega⟩,⟨by omega⟩,⟨by omega⟩,⟨rfl⟩,⟨by simp⟩,⟨by simpa [nums] using own_lit w w.heap.size 5 .u8 [] (Nat.le_refl _) (by simp)⟩,⟨below_alloc (Below.refl _ _) _⟩⟩
 case round =>
  obtain ⟨x,acc,rfl,H0,H1,HK,HR,HL,HO,HB⟩:=hrel
  by_cases hlt:x < (s.size:Int)
  ·have hcall:=HG.out wr (bt s x) HB.out (bt_range _ _).1 (bt_range _ _).2
   have hR:=repl_at G s x acc H0.out hlt
   have hsz:=HBd.out (bt s x)
   generalize G (bt s x)=q at hcall hR hsz
   obtain ⟨t,b⟩:=q
   simp only at hcall hR hsz
   have HR2:=zk hR
   have HZ:=zk hsz
   clear hR hsz HG HBd
   have HC:=zk hcall
   clear hcall
   have c2b0:decide (x < (s.size:Int))=true:=decide_eq_true hlt
   have p4:=H0.out
   have q4:=hlt
   have hx4:=bt_at s x
   have P4:=zk p4
   have Q4:=zk q4
   clear hlt
   replace p4:=eq_true p4
   replace q4:=eq_true q4
   cases b with
   | true =>
    have HR3:Aside0 (repl G ((bytesOf s).drop x.toNat) acc=if (acc ++ bytesOf t).length > 1048576 then [] else repl G ((bytesOf s).drop (x.toNat+1)) (acc ++ bytesOf t)):=⟨HR2.out⟩
    clear HR2
    go_wp2_with (first
     | (go_at_fn g;refine HC.out.mono ?_;rintro e w2 ⟨rfl,hb2⟩;have n0_:=zk (pw_own_below HO.out hb2);have n1_:=zk (below_step HB.out hb2);clear HO HB hb2;have HO:=n0_;have HB:=n1_;clear n0_ n1_)
     | (at_builtin;refine print_append_str (w0:=w) w.heap.size rfl (.tmp 25) _ 22 9 5 rfl Tryz.underlying22 Tryz.underlying9 infou8 _ acc t rfl rfl HO.out HB.out HB.out.size (by have:=HL.out;have:=HZ.out;omega) ?_;intro v1 w1 hO1 hB1 hg1;obtain ⟨A1,c1,rfl⟩:=own_slice hO1;generalize hN:(acc ++ bytesOf t).length=N at hO1;have n0_:=zk hO1;have n1_:=zk hB1;have HN:=zk hN;have hN2:N≤2097152:=(by rw [← hN,List.length_append,bytesOf_length];have:=HL.out;have:=HZ.out;omega);clear hN hO1 hB1 hg1 HO HB;have HO:=n0_;have HB:=n1_;clear n0_ n1_))
    ·have hbig:(1048576:Int) < (N:Int):=by assumption
     go_ret
     refine ⟨?_,HB.out⟩
     exact congrArg (fun r=>Ending.returned (Value.string r)) (replB_of HR.out (HR3.out.trans (if_pos (by rw [HN.out];omega)))).symm
    ·have hbig:(N:Int)≤1048576:=by assumption
     go_roundg (gk - 1)
     case measure=>have:=HK.out;have:=Q4.out;omega
     case rel =>
      have hw:wrap64 (x+1)=x+1:=by have:=Q4.out;have:=P4.out;unfold wrap64;omega
      refine ⟨x+1,acc ++ bytesOf t,by rw [hw],⟨by have:=P4.out;omega⟩,⟨by have:=Q4.out;omega⟩,⟨by have:=HK.out;omega⟩,⟨?_⟩,⟨by rw [HN.out];omega⟩,⟨by rw [HN.out];exact HO.out⟩,HB⟩
      rw [show (x+1).toNat=x.toNat+1 by have:=P4.out;omega,← HR.out,HR3.out,if_neg]
      rw [HN.out];omega
   | false =>
    have HR3:Aside0 (repl G ((bytesOf s).drop x.toNat) acc=if (acc ++ [bt s x]).length > 1048576 then [] else repl G ((bytesOf s).drop (x.toNat+1)) (acc ++ [bt s x])):=⟨HR2.out⟩
    clear HR2
    go_wp2_with (first
     | (go_at_fn g;refine HC.out.mono ?_;rintro e w2 ⟨rfl,hb2⟩;have n0_:=zk (pw_own_below HO.out hb2);have n1_:=zk (below_step HB.out hb2);clear HO HB hb2;have HO:=n0_;have HB:=n1_;clear n0_ n1_)
     | (at_builtin;refine print_append_num (w0:=w) w.heap.size rfl (.tmp 28) _ 22 5 .u8 1 rfl Tryz.underlying22 infou8 (by decide) _ acc (bt s x) rfl rfl HO.out HB.out HB.out.size (by have:=HL.out;omega) ?_;intro v1 w1 hO1 hB1 hg1 _;obtain ⟨A1,c1,rfl⟩:=own_slice hO1;generalize hN:(acc ++ [bt s x]).length=N at hO1;have n0_:=zk hO1;have n1_:=zk hB1;have HN:=zk hN;have hN2:N≤2097152:=(by rw [← hN,List.length_append,List.length_singleton];have:=HL.out;omega);clear hN hO1 hB1 hg1 HO HB;have HO:=n0_;have HB:=n1_;clear n0_ n1_))
    ·have hbig:(1048576:Int) < (N:Int):=by assumption
     go_ret
     refine ⟨?_,HB.out⟩
     exact congrArg (fun r=>Ending.returned (Value.string r)) (replB_of HR.out (HR3.out.trans (if_pos (by rw [HN.out];omega)))).symm
    ·have hbig:(N:Int)≤1048576:=by assumption
     go_roundg (gk - 1)
     case measure=>have:=HK.out;have:=Q4.out;omega
     case rel =>
      have hw:wrap64 (x+1)=x+1:=by have:=Q4.out;have:=P4.out;unfold wrap64;omega
      refine ⟨x+1,acc ++ [bt s x],by rw [hw],⟨by have:=P4.out;omega⟩,⟨by have:=Q4.out;omega⟩,⟨by have:=HK.out;omega⟩,⟨?_⟩,⟨by rw [HN.out];omega⟩,⟨by rw [HN.out];exact HO.out⟩,HB⟩
      rw [show (x+1).toNat=x.toNat+1 by have:=P4.out;omega,← HR.out,HR3.out,if_neg]
      rw [HN.out];omega
  ·have c2b0:decide (x < (s.size:Int))=false:=decide_eq_false hlt
   have hx:x=s.size:=by have:=H1.out;omega
   have hr:repl G (bytesOf s) []=acc:=by
    rw [← HR.out,List.drop_of_length_le za32]
    rfl
   have HF:=zk hr
   clear hr hx hlt HG HBd
   have hconv:=own_string (P:=Tryz.prog) Tryz.underlying22 Tryz.underlying5 Tryz.underlying9 HO.out
   go_wp2
   go_ret
   exact ⟨congrArg (fun r=>Ending.returned (Value.string (strOfNums r))) HF.out.symm,HB.out⟩
-- EXT loop.example/g00582/impl.ApplyValues making
-- ALSO loop.example/g00582/impl.ValueOf
-- ALSO loop.example/g00582/impl.isVariable
def wordOf (x y z:ByteArray) (c:Int):ByteArray × Bool:=((impl_ValueOf.f x y z c).getD ⟨#[]⟩,(impl_isVariable.f c).getD false)
def impl_ApplyValues.f (s x y z:ByteArray):Option ByteArray :=
 if s.size≤9223372036854775807∧x.size≤1048576∧y.size≤1048576∧z.size≤1048576 then some (replB (wordOf x y z) s) else none
theorem valueOf_some (x y z:ByteArray) (c:Int):impl_ValueOf.f x y z c=some (wordOf x y z c).1:=by
 unfold wordOf impl_ValueOf.f
 repeat' split
 all_goals rfl
theorem isVariable_some (x y z:ByteArray) (c:Int):impl_isVariable.f c=some (wordOf x y z c).2:=rfl
theorem wordOf_size (x y z:ByteArray) (c:Int) (hx:x.size≤1048576) (hy:y.size≤1048576) (hz:z.size≤1048576):(wordOf x y z c).1.size≤1048576:=by
 unfold wordOf impl_ValueOf.f
 repeat' split
 all_goals first|exact hx|exact hy|exact hz|exact Nat.zero_le _
set_option maxHeartbeats 1000000 in
theorem clo_ApplyValues (c:Int) (x y z:ByteArray) (g:Nat) (W:World) (h0:W.cell? ⟨g,0,none⟩=some (.string x)) (h1:W.cell? ⟨g,1,none⟩=some (.string y)) (h2:W.cell? ⟨g,2,none⟩=some (.string z)) :
  Calls Tryz.prog 105 #[.int .u8 c,.pointer (some ⟨g,0,none⟩)] W fun e W'=>e = .returned (.tuple #[.string (wordOf x y z c).1,.bool (wordOf x y z c).2])∧Below W.heap.size W W':=by
 have hv:=zk (valueOf_some x y z c)
 have hi:=zk (isVariable_some x y z c)
 generalize (wordOf x y z c).1=a at hv ⊢
 generalize (wordOf x y z c).2=b at hi ⊢
 go_enter Tryz.func105,Tryz.ntmps105
 go_wp2_with fail
 refine (impl_ValueOf.calls x y z c a _ hv.out).mono ?_
 rintro e w1 ⟨rfl,hb1⟩
 have HB:=zk hb1
 clear hb1 h0 h1 h2
 go_wp2_with (go_at_call 107;refine (impl_isVariable.calls c b _ hi.out).mono ?_;rintro e w2 ⟨rfl,⟨nd,rfl⟩⟩)
 go_ret2
 exact ⟨rfl,pw_below_drewN HB.out _⟩
set_option maxHeartbeats 1000000 in
theorem impl_ApplyValues.calls (s x y z:ByteArray) (r:ByteArray) (w:World) (h:impl_ApplyValues.f s x y z=some r) :
  Calls Tryz.prog 77 #[.string s,.agg #[.string x,.string y,.string z]] w fun e w'=>e = .returned (.string r)∧Below w.heap.size w w':=by
 unfold impl_ApplyValues.f at h
 split at h
 ·rename_i hc
  obtain ⟨hs,hx,hy,hz⟩:=hc
  obtain rfl:=zi h
  clear h
  have HS:=zk hs
  have HX:=zk (fun c=>wordOf_size x y z c hx hy hz)
  clear hs hx hy hz
  have hmf:∀ (fn:Fn) (first cap:Array Value) (w:World),(Instr.makeFunc fn first cap).run Tryz.prog w = .ok (.func fn first cap) w:=fun _ _ _ _=>rfl
  go_enter Tryz.func77,Tryz.ntmps77
  go_wp2_with fail
  refine (replaced_any (wordOf x y z) 105 _ (enters_of Tryz.func105 (by kernel_rfl) rfl) s _ HS.out HX.out ?_).mono ?_
  ·intro W c hb _ _
   refine clo_ApplyValues c x y z _ W ?_ ?_ ?_
   ·rw [hb.cell (p:=⟨w.heap.size,0,none⟩) (by simp)]
    go_simp
   ·rw [hb.cell (p:=⟨w.heap.size,1,none⟩) (by simp)]
    go_simp
   ·rw [hb.cell (p:=⟨w.heap.size,2,none⟩) (by simp)]
    go_simp
  ·rintro e w' ⟨rfl,hb'⟩
   have hb2:Below w.heap.size w w':=below_then (below_alloc (Below.refl _ _) _) (by simp) hb'
   have HB2:=zk hb2
   clear hb2 hb'
   go_wp2
   go_ret
   exact ⟨rfl,HB2.out⟩
 ·exact absurd h (by simp)
end Go.Proofs.YtffjfdoghofkdaaGreat.Ext
namespace Go.Proofs.YtffjfdoghofkdaaGreat.A
open Go.RowKit YtffjfdoghofkdaaGreat.Ext YtffjfdoghofkdaaGreatW.PrintWords YtffjfdoghofkdaaGreatW.PrintLast YtffjfdoghofkdaaGreatW.PrintMore
attribute [local go_sem] max2_int min2_int max_two min_two max_three min_three max_four min_four
mutual
def impl_IsValidConstraint.j0:Nat→Bool→Int→ByteArray→ByteArray→Int→ByteArray→List (S65)→List Int→Int→Option (Bool)
 | 0,_,_,_,_,_,_,_,_,_=>none
 | k+1,x16,x65002000,x65002001,x65002002,x65002003,x65002004,x65002005,x65002006,x65002007=>if x16=true then (some false) else (if x65002000=1 then (impl_IsValidConstraint.j1 k x65002000 (x65002000 == 1) x65002000 x65002001 x65002002 x65002003 x65002004 x65002005 x65002006 x65002007) else (impl_IsValidConstraint.j1 k x65002000 (x65002000 == 2) x65002000 x65002001 x65002002 x65002003 x65002004 x65002005 x65002006 x65002007))
def impl_IsValidConstraint.j1:Nat→Int→Bool→Int→ByteArray→ByteArray→Int→ByteArray→List (S65)→List Int→Int→Option (Bool)
 | 0,_,_,_,_,_,_,_,_,_,_=>none
 | k+1,x18,x19,x65002000,x65002001,x65002002,x65002003,x65002004,x65002005,x65002006,x65002007=>if x19=true then ((impl_IsTerm.f k x65002001).bind fun t65002=>(if t65002=true then ((impl_IsTerm.f k x65002002).bind fun t65003=>(if t65003=true then ((impl_isZeroRegex.f x65002003 x65002004 x65002005).bind fun t65004=>(some t65004)) else (some false))) else (some false))) else (if x18=3 then (impl_IsValidConstraint.j2 k x18 (x18 == 3) x65002000 x65002001 x65002002 x65002003 x65002004 x65002005 x65002006 x65002007) else (impl_IsValidConstraint.j2 k x18 (x18 == 4) x65002000 x65002001 x65002002 x65002003 x65002004 x65002005 x65002006 x65002007))
def impl_IsValidConstraint.j2:Nat→Int→Bool→Int→ByteArray→ByteArray→Int→ByteArray→List (S65)→List Int→Int→Option (Bool)
 | 0,_,_,_,_,_,_,_,_,_,_=>none
 | k+1,x18,x35,x65002000,x65002001,x65002002,x65002003,x65002004,x65002005,x65002006,x65002007=>if x35=true then ((impl_IsTerm.f k x65002001).bind fun t65005=>(if t65005=true then (if x65002002.toList=([]:List UInt8) then ((impl_IsValidRegex.f k x65002003 x65002004 x65002005).bind fun t65006=>(some t65006)) else (some false)) else (some false))) else (if x18=5 then (if x65002001.toList=([]:List UInt8) then (if x65002002.toList=([]:List UInt8) then ((impl_isZeroRegex.f x65002003 x65002004 x65002005).bind fun t65007=>(if t65007=true then (if (x65002006.length:Int)=3 then ((impl_within.f x65002007 (-99) 99).bind fun t65008=>(if t65008=true then ((slices_ContainsFunc_int_int.f k x65002006).bind fun t65009=>(some (!t65009))) else (some false))) else (some false)) else (some false))) else (some false)) else (some false)) else (some false))
end
def impl_IsValidConstraint.f (k:Nat) (a0_0:Int) (a0_1:ByteArray) (a0_2:ByteArray) (a0_3:Int) (a0_4:ByteArray) (l0_5:List (S65)) (l0_6:List Int) (a0_7:Int):Option (Bool):=if a0_0=5 then (impl_IsValidConstraint.j0 k false a0_0 a0_1 a0_2 a0_3 a0_4 l0_5 l0_6 a0_7) else (if (l0_6.length:Int)=0 then (impl_IsValidConstraint.j0 k (a0_7 != 0) a0_0 a0_1 a0_2 a0_3 a0_4 l0_5 l0_6 a0_7) else (impl_IsValidConstraint.j0 k true a0_0 a0_1 a0_2 a0_3 a0_4 l0_5 l0_6 a0_7))
theorem impl_IsValidConstraint.mono_l:∀ k,(∀ y0 y1 y2 y3 y4 y5 y6 y7 y8,LeO (impl_IsValidConstraint.j0 k y0 y1 y2 y3 y4 y5 y6 y7 y8) (impl_IsValidConstraint.j0 (k+1) y0 y1 y2 y3 y4 y5 y6 y7 y8))∧(∀ y0 y1 y2 y3 y4 y5 y6 y7 y8 y9,LeO (impl_IsValidConstraint.j1 k y0 y1 y2 y3 y4 y5 y6 y7 y8 y9) (impl_IsValidConstraint.j1 (k+1) y0 y1 y2 y3 y4 y5 y6 y7 y8 y9))∧(∀ y0 y1 y2 y3 y4 y5 y6 y7 y8 y9,LeO (impl_IsValidConstraint.j2 k y0 y1 y2 y3 y4 y5 y6 y7 y8 y9) (impl_IsValidConstraint.j2 (k+1) y0 y1 y2 y3 y4 y5 y6 y7 y8 y9))
 | 0=>⟨fun _ _ _ _ _ _ _ _ _ r h=>by simp [impl_IsValidConstraint.j0] at h,fun _ _ _ _ _ _ _ _ _ _ r h=>by simp [impl_IsValidConstraint.j1] at h,fun _ _ _ _ _ _ _ _ _ _ r h=>by simp [impl_IsValidConstraint.j2] at h⟩
 | k+1=>by
  obtain ⟨ih0,ih1,ih2⟩:=impl_IsValidConstraint.mono_l k
  refine ⟨?_,?_,?_⟩
  ·intro y0 y1 y2 y3 y4 y5 y6 y7 y8
   unfold impl_IsValidConstraint.j0
   repeat' first
   | with_reducible first|exact ih0 _ _ _ _ _ _ _ _ _|exact ih1 _ _ _ _ _ _ _ _ _ _|exact ih2 _ _ _ _ _ _ _ _ _ _|exact impl_IsTerm.mono _ _|exact impl_IsValidRegex.mono _ _ _ _|exact slices_ContainsFunc_int_int.mono _ _|exact LeO.refl _|exact LeO.none _|refine LeO.ite ?_ ?_|refine LeO.bind ?_ (fun _=>?_)
  ·intro y0 y1 y2 y3 y4 y5 y6 y7 y8 y9
   unfold impl_IsValidConstraint.j1
   repeat' first
   | with_reducible first|exact ih0 _ _ _ _ _ _ _ _ _|exact ih1 _ _ _ _ _ _ _ _ _ _|exact ih2 _ _ _ _ _ _ _ _ _ _|exact impl_IsTerm.mono _ _|exact impl_IsValidRegex.mono _ _ _ _|exact slices_ContainsFunc_int_int.mono _ _|exact LeO.refl _|exact LeO.none _|refine LeO.ite ?_ ?_|refine LeO.bind ?_ (fun _=>?_)
  ·intro y0 y1 y2 y3 y4 y5 y6 y7 y8 y9
   unfold impl_IsValidConstraint.j2
   repeat' first
   | with_reducible first|exact ih0 _ _ _ _ _ _ _ _ _|exact ih1 _ _ _ _ _ _ _ _ _ _|exact ih2 _ _ _ _ _ _ _ _ _ _|exact impl_IsTerm.mono _ _|exact impl_IsValidRegex.mono _ _ _ _|exact slices_ContainsFunc_int_int.mono _ _|exact LeO.refl _|exact LeO.none _|refine LeO.ite ?_ ?_|refine LeO.bind ?_ (fun _=>?_)
theorem impl_IsValidConstraint.mono:∀ a0 a1 a2 a3 a4 a5 a6 a7 k,LeO (impl_IsValidConstraint.f k a0 a1 a2 a3 a4 a5 a6 a7) (impl_IsValidConstraint.f (k+1) a0 a1 a2 a3 a4 a5 a6 a7):=by
 intro a0 a1 a2 a3 a4 a5 a6 a7 k
 obtain ⟨ih0,ih1,ih2⟩:=impl_IsValidConstraint.mono_l k
 unfold impl_IsValidConstraint.f
 repeat' first
  | with_reducible first|exact ih0 _ _ _ _ _ _ _ _ _|exact ih1 _ _ _ _ _ _ _ _ _ _|exact ih2 _ _ _ _ _ _ _ _ _ _|exact impl_IsTerm.mono _ _|exact impl_IsValidRegex.mono _ _ _ _|exact slices_ContainsFunc_int_int.mono _ _|exact LeO.refl _|exact LeO.none _|refine LeO.ite ?_ ?_|refine LeO.bind ?_ (fun _=>?_)
theorem impl_IsValidConstraint.calls (k:Nat) (a0_0:Int) (a0_1:ByteArray) (a0_2:ByteArray) (a0_3:Int) (a0_4:ByteArray) (A0_5:Option Addr) (c0_5:Nat) (l0_5:List (S65)) (A0_6:Option Addr) (c0_6:Nat) (l0_6:List Int) (a0_7:Int) (r:Bool) (w:World) (hr0_5:Kd.C k65 w A0_5 l0_5.length l0_5) (hc0_5:l0_5.length≤c0_5) (hr0_6:Kd.C (Kd.int .i64) w A0_6 l0_6.length l0_6) (hc0_6:l0_6.length≤c0_6) (h:impl_IsValidConstraint.f k a0_0 a0_1 a0_2 a0_3 a0_4 l0_5 l0_6 a0_7=some r) :
   Calls Tryz.prog 65 #[.agg #[.int .i64 a0_0,.string a0_1,.string a0_2,.int .i64 a0_3,.string a0_4,.slice A0_5 l0_5.length c0_5,.slice A0_6 l0_6.length c0_6,.int .i64 a0_7]] w fun e w'=>e = .returned (.bool r)∧Below w.heap.size w w':=by
 have hu67:=Tryz.underlying67
 have hu65:=Tryz.underlying65
 have HR0_5:=zk hr0_5
 have HC0_5:=zk hc0_5
 clear hr0_5 hc0_5
 have HR0_6:=zk hr0_6
 have HC0_6:=zk hc0_6
 clear hr0_6 hc0_6
 have HB:=zk (Below.refl w.heap.size w)
 have H:(if a0_0=5 then (impl_IsValidConstraint.j0 k false a0_0 a0_1 a0_2 a0_3 a0_4 l0_5 l0_6 a0_7) else (if (l0_6.length:Int)=0 then (impl_IsValidConstraint.j0 k (a0_7 != 0) a0_0 a0_1 a0_2 a0_3 a0_4 l0_5 l0_6 a0_7) else (impl_IsValidConstraint.j0 k true a0_0 a0_1 a0_2 a0_3 a0_4 l0_5 l0_6 a0_7)))=some r:=h
 clear h
 have HC2:=zk H
 clear H
 go_enter Tryz.func65,Tryz.ntmps65
 go_upto_region 1 with (first|((with_reducible refine gate_dst (N:=1) rfl ?_);(try (refine gate_guard (by rfl) ?_;dsimp only));refine zE (N:=1) (cs:=#[.int .i64 a0_0,.string a0_1,.string a0_2,.int .i64 a0_3,.string a0_4,.slice A0_5 l0_5.length c0_5,.slice A0_6 l0_6.length c0_6,.int .i64 a0_7]) (t:=67) ?_;intro gb65001 hg w3 hbox hb;have n0_:=zk (below_step za3 hb);have n1_:=zk (hbox);have n2_:=zk (zs (w:=w) hg za3);have n3_:=zk (zs (w:=w) hg za3);clear HB;have HB:=n0_;have BK65001:=n1_;have GW65001:=n2_;have GE65001:=n3_;clear n0_ n1_ n2_ n3_;clear hb hbox hg))
 (try simp only [Act.put,zt,zu,zv])
 go_cut [16] (fun v16 wc=>∃ (kq:Nat) (x16_1:Bool),v16 = .bool x16_1∧Aside0 (impl_IsValidConstraint.j0 kq x16_1 a0_0 a0_1 a0_2 a0_3 a0_4 l0_5 l0_6 a0_7=some r)∧Aside0 (kq≤k)∧Aside0 (wc.heap[gb65001]? = some (.cells #[.int .i64 a0_0,.string a0_1,.string a0_2,.int .i64 a0_3,.string a0_4,(.slice A0_5 l0_5.length c0_5),(.slice A0_6 l0_6.length c0_6),.int .i64 a0_7] 67 (0,0)))∧Aside0 (Below w.heap.size w wc))
 case first =>
  have H:=HC2.out
  clear HC2
  by_cases c4:a0_0=5
  · rw [if_pos c4] at H
    have c4b0:(a0_0 == 5)=true:=beq_iff_eq.mpr c4
    have c4b1:(a0_0 != 5)=false:=bne_eq_false_iff_eq.mpr c4
    clear c4
    (first|rw [c4b0]|(simp only [i64_w,i32_w];rw [c4b0])|skip)
    have H':=zk H
    clear H
    obtain ⟨hcz5_0,hcz5_1,hcz5_2,hcz5_3,hcz5_4,hcz5_5,hcz5_6,hcz5_7,hfz5_0,hfz5_1,hfz5_2,hfz5_3,hfz5_4,hfz5_5,hfz5_6,hfz5_7⟩:=blk8 BK65001.out
    go_wp2
    go_meet
    case rel=>exact ⟨_,(false),za7,H',⟨za23⟩,⟨za1 BK65001.out⟩,⟨za3⟩⟩
  rw [if_neg c4] at H
  have c4b0:(a0_0 == 5)=false:=beq_eq_false_iff_ne.mpr c4
  have c4b1:(a0_0 != 5)=true:=bne_iff_ne.mpr c4
  (first|rw [c4b0]|(simp only [i64_w,i32_w];rw [c4b0])|skip)
  by_cases c6:(l0_6.length:Int)=0
  · rw [if_pos c6] at H
    have c6b0:((l0_6.length:Int) == 0)=true:=beq_iff_eq.mpr c6
    have c6b1:((l0_6.length:Int) != 0)=false:=bne_eq_false_iff_eq.mpr c6
    clear c6
    have H':=zk H
    clear H
    obtain ⟨hcz7_0,hcz7_1,hcz7_2,hcz7_3,hcz7_4,hcz7_5,hcz7_6,hcz7_7,hfz7_0,hfz7_1,hfz7_2,hfz7_3,hfz7_4,hfz7_5,hfz7_6,hfz7_7⟩:=blk8 BK65001.out
    go_wp2
    go_meet
    case rel=>exact ⟨_,((a0_7 != 0)),za7,H',⟨za23⟩,⟨za1 BK65001.out⟩,⟨za3⟩⟩
  · rw [if_neg c6] at H
    have c6b0:((l0_6.length:Int) == 0)=false:=beq_eq_false_iff_ne.mpr c6
    have c6b1:((l0_6.length:Int) != 0)=true:=bne_iff_ne.mpr c6
    have c6b2:¬ (l0_6 = []):=fun h_=>c6 (by rw [h_];rfl)
    have H':=zk H
    clear H
    obtain ⟨hcz8_0,hcz8_1,hcz8_2,hcz8_3,hcz8_4,hcz8_5,hcz8_6,hcz8_7,hfz8_0,hfz8_1,hfz8_2,hfz8_3,hfz8_4,hfz8_5,hfz8_6,hfz8_7⟩:=blk8 BK65001.out
    go_wp2
    go_meet
    case rel=>exact ⟨_,(true),za7,H',⟨za23⟩,⟨za1 BK65001.out⟩,⟨za3⟩⟩
 case rest =>
  clear HC2
  obtain ⟨kq,x16_1,rfl,HA,HJ1,BK65001,HB⟩:=hcut
  cases kq with
  | zero=>exact absurd HA.out (by simp [impl_IsValidConstraint.j0])
  | succ kj1 =>
   have H:=HA.out
   clear HA
   simp only [impl_IsValidConstraint.j0] at H
   by_cases c9:x16_1=true
   · subst c9
     have H1:(some false)=some r:=by rw [if_pos rfl] at H;exact H
     clear H
     have H:=H1
     clear H1
     obtain rfl:=zi H
     go_wp2
     go_ret
     exact ⟨za6,za3⟩
   · replace c9:=Bool.eq_false_iff.mpr c9
     subst c9
     have H1:(if a0_0=1 then (impl_IsValidConstraint.j1 kj1 a0_0 (a0_0 == 1) a0_0 a0_1 a0_2 a0_3 a0_4 l0_5 l0_6 a0_7) else (impl_IsValidConstraint.j1 kj1 a0_0 (a0_0 == 2) a0_0 a0_1 a0_2 a0_3 a0_4 l0_5 l0_6 a0_7))=some r:=by rw [if_neg (show ¬ (false=true) by decide)] at H;exact H
     clear H
     have H:=H1
     clear H1
     have HC10:=zk H
     clear H
     obtain ⟨hcz11_0,hcz11_1,hcz11_2,hcz11_3,hcz11_4,hcz11_5,hcz11_6,hcz11_7,hfz11_0,hfz11_1,hfz11_2,hfz11_3,hfz11_4,hfz11_5,hfz11_6,hfz11_7⟩:=blk8 BK65001.out
     go_upto_if 19 with (fail)
     go_cut [19] (fun v19 wc=>∃ (kq:Nat) (x19_9:Bool),v19 = .bool x19_9∧Aside0 (impl_IsValidConstraint.j1 kq a0_0 x19_9 a0_0 a0_1 a0_2 a0_3 a0_4 l0_5 l0_6 a0_7=some r)∧Aside0 (kq≤kj1)∧Aside0 (wc.heap[gb65001]? = some (.cells #[.int .i64 a0_0,.string a0_1,.string a0_2,.int .i64 a0_3,.string a0_4,(.slice A0_5 l0_5.length c0_5),(.slice A0_6 l0_6.length c0_6),.int .i64 a0_7] 67 (0,0)))∧Aside0 (Below w.heap.size w wc))
     case first =>
      have H:=HC10.out
      clear HC10
      by_cases c12:a0_0=1
      · rw [if_pos c12] at H
        have c12b0:(a0_0 == 1)=true:=beq_iff_eq.mpr c12
        have c12b1:(a0_0 != 1)=false:=bne_eq_false_iff_eq.mpr c12
        clear c12
        (first|rw [c12b0]|(simp only [i64_w,i32_w];rw [c12b0])|skip)
        have H':=zk H
        clear H
        go_wp2
        go_meet
        case rel=>exact ⟨_,((a0_0 == 1)),za7,H',⟨za27⟩,⟨za1 BK65001.out⟩,⟨za3⟩⟩
      · rw [if_neg c12] at H
        have c12b0:(a0_0 == 1)=false:=beq_eq_false_iff_ne.mpr c12
        have c12b1:(a0_0 != 1)=true:=bne_iff_ne.mpr c12
        (first|rw [c12b0]|(simp only [i64_w,i32_w];rw [c12b0])|skip)
        have H':=zk H
        clear H
        go_wp2
        go_meet
        case rel=>exact ⟨_,((a0_0 == 2)),za7,H',⟨za27⟩,⟨za1 BK65001.out⟩,⟨za3⟩⟩
     case rest =>
      clear HC10
      try clear c9
      try clear hcz11_0
      try clear hcz11_1
      try clear hcz11_2
      try clear hcz11_3
      try clear hcz11_4
      try clear hcz11_5
      try clear hcz11_6
      try clear hcz11_7
      try clear hfz11_0
      try clear hfz11_1
      try clear hfz11_2
      try clear hfz11_3
      try clear hfz11_4
      try clear hfz11_5
      try clear hfz11_6
      try clear hfz11_7
      obtain ⟨kq,x19_9,rfl,HA,HJ9,BK65001,HB⟩:=hcut
      cases kq with
      | zero=>exact absurd HA.out (by simp [impl_IsValidConstraint.j1])
      | succ kj9 =>
       have H:=HA.out
       clear HA
       simp only [impl_IsValidConstraint.j1] at H
       by_cases c13:x19_9=true
       subst c13
       have H1:((impl_IsTerm.f kj9 a0_1).bind fun t65002=>(if t65002=true then ((impl_IsTerm.f kj9 a0_2).bind fun t65003=>(if t65003=true then ((impl_isZeroRegex.f a0_3 a0_4 l0_5).bind fun t65004=>(some t65004)) else (some false))) else (some false)))=some r:=by rw [if_pos rfl] at H;exact H
       clear H
       have H:=H1
       clear H1
       replace H:=zo H
       obtain ⟨t65002,A140,H⟩:=H
       replace H:(if t65002=true then ((impl_IsTerm.f kj9 a0_2).bind fun t65003=>(if t65003=true then ((impl_isZeroRegex.f a0_3 a0_4 l0_5).bind fun t65004=>(some t65004)) else (some false))) else (some false))=some r:=H
       have A14:=zk A140
       clear A140
       by_cases c15:t65002=true
       subst c15
       have H1:((impl_IsTerm.f kj9 a0_2).bind fun t65003=>(if t65003=true then ((impl_isZeroRegex.f a0_3 a0_4 l0_5).bind fun t65004=>(some t65004)) else (some false)))=some r:=by rw [if_pos rfl] at H;exact H
       clear H
       have H:=H1
       clear H1
       replace H:=zo H
       obtain ⟨t65003,A160,H⟩:=H
       replace H:(if t65003=true then ((impl_isZeroRegex.f a0_3 a0_4 l0_5).bind fun t65004=>(some t65004)) else (some false))=some r:=H
       have A16:=zk A160
       clear A160
       by_cases c17:t65003=true
       subst c17
       have H1:((impl_isZeroRegex.f a0_3 a0_4 l0_5).bind fun t65004=>(some t65004))=some r:=by rw [if_pos rfl] at H;exact H
       clear H
       have H:=H1
       clear H1
       replace H:=zo H
       obtain ⟨t65004,A180,H⟩:=H
       replace H:(some t65004)=some r:=H
       have A18:=zk A180
       clear A180
       rotate_left
       replace c17:=Bool.eq_false_iff.mpr c17
       subst c17
       have H1:(some false)=some r:=by rw [if_neg (show ¬ (false=true) by decide)] at H;exact H
       clear H
       have H:=H1
       clear H1
       rotate_left
       replace c15:=Bool.eq_false_iff.mpr c15
       subst c15
       have H1:(some false)=some r:=by rw [if_neg (show ¬ (false=true) by decide)] at H;exact H
       clear H
       have H:=H1
       clear H1
       rotate_left
       · replace c13:=Bool.eq_false_iff.mpr c13
         subst c13
         have H1:(if a0_0=3 then (impl_IsValidConstraint.j2 kj9 a0_0 (a0_0 == 3) a0_0 a0_1 a0_2 a0_3 a0_4 l0_5 l0_6 a0_7) else (impl_IsValidConstraint.j2 kj9 a0_0 (a0_0 == 4) a0_0 a0_1 a0_2 a0_3 a0_4 l0_5 l0_6 a0_7))=some r:=by rw [if_neg (show ¬ (false=true) by decide)] at H;exact H
         clear H
         have H:=H1
         clear H1
         have HC23:=zk H
         clear H
         go_upto_if 35 with (fail)
         go_cut [35] (fun v35 wc=>∃ (kq:Nat) (x35_22:Bool),v35 = .bool x35_22∧Aside0 (impl_IsValidConstraint.j2 kq a0_0 x35_22 a0_0 a0_1 a0_2 a0_3 a0_4 l0_5 l0_6 a0_7=some r)∧Aside0 (kq≤kj9)∧Aside0 (wc.heap[gb65001]? = some (.cells #[.int .i64 a0_0,.string a0_1,.string a0_2,.int .i64 a0_3,.string a0_4,(.slice A0_5 l0_5.length c0_5),(.slice A0_6 l0_6.length c0_6),.int .i64 a0_7] 67 (0,0)))∧Aside0 (Below w.heap.size w wc))
         case first =>
          have H:=HC23.out
          clear HC23
          by_cases c24:a0_0=3
          · rw [if_pos c24] at H
            have c24b0:(a0_0 == 3)=true:=beq_iff_eq.mpr c24
            have c24b1:(a0_0 != 3)=false:=bne_eq_false_iff_eq.mpr c24
            clear c24
            (first|rw [c24b0]|(simp only [i64_w,i32_w];rw [c24b0])|skip)
            have H':=zk H
            clear H
            go_wp2
            go_meet
            case rel=>exact ⟨_,((a0_0 == 3)),za7,H',⟨by have:=HJ1.out;have:=HJ9.out;first|omega|exact Nat.le_refl _⟩,⟨za1 BK65001.out⟩,⟨za3⟩⟩
          · rw [if_neg c24] at H
            have c24b0:(a0_0 == 3)=false:=beq_eq_false_iff_ne.mpr c24
            have c24b1:(a0_0 != 3)=true:=bne_iff_ne.mpr c24
            (first|rw [c24b0]|(simp only [i64_w,i32_w];rw [c24b0])|skip)
            have H':=zk H
            clear H
            go_wp2
            go_meet
            case rel=>exact ⟨_,((a0_0 == 4)),za7,H',⟨by have:=HJ1.out;have:=HJ9.out;first|omega|exact Nat.le_refl _⟩,⟨za1 BK65001.out⟩,⟨za3⟩⟩
         case rest =>
          clear HC23
          try clear c9
          try clear c13
          try clear hcz11_0
          try clear hcz11_1
          try clear hcz11_2
          try clear hcz11_3
          try clear hcz11_4
          try clear hcz11_5
          try clear hcz11_6
          try clear hcz11_7
          try clear hfz11_0
          try clear hfz11_1
          try clear hfz11_2
          try clear hfz11_3
          try clear hfz11_4
          try clear hfz11_5
          try clear hfz11_6
          try clear hfz11_7
          obtain ⟨kq,x35_22,rfl,HA,HJ22,BK65001,HB⟩:=hcut
          cases kq with
          | zero=>exact absurd HA.out (by simp [impl_IsValidConstraint.j2])
          | succ kj22 =>
           have H:=HA.out
           clear HA
           simp only [impl_IsValidConstraint.j2] at H
           by_cases c25:x35_22=true
           subst c25
           have H1:((impl_IsTerm.f kj22 a0_1).bind fun t65005=>(if t65005=true then (if a0_2.toList=([]:List UInt8) then ((impl_IsValidRegex.f kj22 a0_3 a0_4 l0_5).bind fun t65006=>(some t65006)) else (some false)) else (some false)))=some r:=by rw [if_pos rfl] at H;exact H
           clear H
           have H:=H1
           clear H1
           replace H:=zo H
           obtain ⟨t65005,A260,H⟩:=H
           replace H:(if t65005=true then (if a0_2.toList=([]:List UInt8) then ((impl_IsValidRegex.f kj22 a0_3 a0_4 l0_5).bind fun t65006=>(some t65006)) else (some false)) else (some false))=some r:=H
           have A26:=zk A260
           clear A260
           by_cases c27:t65005=true
           subst c27
           have H1:(if a0_2.toList=([]:List UInt8) then ((impl_IsValidRegex.f kj22 a0_3 a0_4 l0_5).bind fun t65006=>(some t65006)) else (some false))=some r:=by rw [if_pos rfl] at H;exact H
           clear H
           have H:=H1
           clear H1
           by_cases c28:a0_2.toList=([]:List UInt8)
           rw [if_pos c28] at H
           have c28b0:(a0_2.toList == ([]:List UInt8))=true:=beq_iff_eq.mpr c28
           have c28b1:(a0_2.toList != ([]:List UInt8))=false:=bne_eq_false_iff_eq.mpr c28
           clear c28
           replace H:=zo H
           obtain ⟨t65006,A290,H⟩:=H
           replace H:(some t65006)=some r:=H
           have A29:=zk A290
           clear A290
           rotate_left
           rw [if_neg c28] at H
           have c28b0:(a0_2.toList == ([]:List UInt8))=false:=beq_eq_false_iff_ne.mpr c28
           have c28b1:(a0_2.toList != ([]:List UInt8))=true:=bne_iff_ne.mpr c28
           rotate_left
           replace c27:=Bool.eq_false_iff.mpr c27
           subst c27
           have H1:(some false)=some r:=by rw [if_neg (show ¬ (false=true) by decide)] at H;exact H
           clear H
           have H:=H1
           clear H1
           rotate_left
           replace c25:=Bool.eq_false_iff.mpr c25
           subst c25
           have H1:(if a0_0=5 then (if a0_1.toList=([]:List UInt8) then (if a0_2.toList=([]:List UInt8) then ((impl_isZeroRegex.f a0_3 a0_4 l0_5).bind fun t65007=>(if t65007=true then (if (l0_6.length:Int)=3 then ((impl_within.f a0_7 (-99) 99).bind fun t65008=>(if t65008=true then ((slices_ContainsFunc_int_int.f kj22 l0_6).bind fun t65009=>(some (!t65009))) else (some false))) else (some false)) else (some false))) else (some false)) else (some false)) else (some false))=some r:=by rw [if_neg (show ¬ (false=true) by decide)] at H;exact H
           clear H
           have H:=H1
           clear H1
           by_cases c34:a0_0=5
           rw [if_pos c34] at H
           have c34b0:(a0_0 == 5)=true:=beq_iff_eq.mpr c34
           have c34b1:(a0_0 != 5)=false:=bne_eq_false_iff_eq.mpr c34
           clear c34
           by_cases c35:a0_1.toList=([]:List UInt8)
           rw [if_pos c35] at H
           have c35b0:(a0_1.toList == ([]:List UInt8))=true:=beq_iff_eq.mpr c35
           have c35b1:(a0_1.toList != ([]:List UInt8))=false:=bne_eq_false_iff_eq.mpr c35
           clear c35
           by_cases c36:a0_2.toList=([]:List UInt8)
           rw [if_pos c36] at H
           have c36b0:(a0_2.toList == ([]:List UInt8))=true:=beq_iff_eq.mpr c36
           have c36b1:(a0_2.toList != ([]:List UInt8))=false:=bne_eq_false_iff_eq.mpr c36
           clear c36
           replace H:=zo H
           obtain ⟨t65007,A370,H⟩:=H
           replace H:(if t65007=true then (if (l0_6.length:Int)=3 then ((impl_within.f a0_7 (-99) 99).bind fun t65008=>(if t65008=true then ((slices_ContainsFunc_int_int.f kj22 l0_6).bind fun t65009=>(some (!t65009))) else (some false))) else (some false)) else (some false))=some r:=H
           have A37:=zk A370
           clear A370
           by_cases c38:t65007=true
           subst c38
           have H1:(if (l0_6.length:Int)=3 then ((impl_within.f a0_7 (-99) 99).bind fun t65008=>(if t65008=true then ((slices_ContainsFunc_int_int.f kj22 l0_6).bind fun t65009=>(some (!t65009))) else (some false))) else (some false))=some r:=by rw [if_pos rfl] at H;exact H
           clear H
           have H:=H1
           clear H1
           by_cases c39:(l0_6.length:Int)=3
           rw [if_pos c39] at H
           have c39b0:((l0_6.length:Int) == 3)=true:=beq_iff_eq.mpr c39
           have c39b1:((l0_6.length:Int) != 3)=false:=bne_eq_false_iff_eq.mpr c39
           clear c39
           replace H:=zo H
           obtain ⟨t65008,A400,H⟩:=H
           replace H:(if t65008=true then ((slices_ContainsFunc_int_int.f kj22 l0_6).bind fun t65009=>(some (!t65009))) else (some false))=some r:=H
           have A40:=zk A400
           clear A400
           by_cases c41:t65008=true
           subst c41
           have H1:((slices_ContainsFunc_int_int.f kj22 l0_6).bind fun t65009=>(some (!t65009)))=some r:=by rw [if_pos rfl] at H;exact H
           clear H
           have H:=H1
           clear H1
           replace H:=zo H
           obtain ⟨t65009,A420,H⟩:=H
           replace H:(some (!t65009))=some r:=H
           have A42:=zk A420
           clear A420
           rotate_left
           replace c41:=Bool.eq_false_iff.mpr c41
           subst c41
           have H1:(some false)=some r:=by rw [if_neg (show ¬ (false=true) by decide)] at H;exact H
           clear H
           have H:=H1
           clear H1
           rotate_left
           rw [if_neg c39] at H
           have c39b0:((l0_6.length:Int) == 3)=false:=beq_eq_false_iff_ne.mpr c39
           have c39b1:((l0_6.length:Int) != 3)=true:=bne_iff_ne.mpr c39
           rotate_left
           replace c38:=Bool.eq_false_iff.mpr c38
           subst c38
           have H1:(some false)=some r:=by rw [if_neg (show ¬ (false=true) by decide)] at H;exact H
           clear H
           have H:=H1
           clear H1
           rotate_left
           rw [if_neg c36] at H
           have c36b0:(a0_2.toList == ([]:List UInt8))=false:=beq_eq_false_iff_ne.mpr c36
           have c36b1:(a0_2.toList != ([]:List UInt8))=true:=bne_iff_ne.mpr c36
           rotate_left
           rw [if_neg c35] at H
           have c35b0:(a0_1.toList == ([]:List UInt8))=false:=beq_eq_false_iff_ne.mpr c35
           have c35b1:(a0_1.toList != ([]:List UInt8))=true:=bne_iff_ne.mpr c35
           rotate_left
           · rw [if_neg c34] at H
             have c34b0:(a0_0 == 5)=false:=beq_eq_false_iff_ne.mpr c34
             have c34b1:(a0_0 != 5)=true:=bne_iff_ne.mpr c34
             obtain rfl:=zi H
             go_wp2
             go_ret
             exact ⟨za6,za3⟩
           all_goals
            obtain rfl:=zi H
            obtain ⟨hcz43_0,hcz43_1,hcz43_2,hcz43_3,hcz43_4,hcz43_5,hcz43_6,hcz43_7,hfz43_0,hfz43_1,hfz43_2,hfz43_3,hfz43_4,hfz43_5,hfz43_6,hfz43_7⟩:=blk8 BK65001.out
            go_wp2_with (first|(go_at_call 92;(with_reducible refine (impl_isZeroRegex.calls a0_3 a0_4 _ _ l0_5 _ _ ?side1 ?side2 A37.out).mono ?_);(case side1=>repeat (first|exact (Kd.C_below HR0_5.out HB.out)|(with_reducible refine Kd.C_alloc ?_ _)|(with_reducible refine Kd.C_drewN ?_ _)|(with_reducible refine Kd.C_drew ?_)));(case side2=>exact HC0_5.out);rintro e w44 ⟨rfl,hb⟩;have n0_:=zk (zb BK65001.out hb);have n1_:=zk (below_step za3 hb);clear BK65001;clear HB;have BK65001:=n0_;have HB:=n1_;clear n0_ n1_;(try clear hb);(try clear hb2);(try clear hk);(try clear hi);obtain ⟨hcz45_0,hcz45_1,hcz45_2,hcz45_3,hcz45_4,hcz45_5,hcz45_6,hcz45_7,hfz45_0,hfz45_1,hfz45_2,hfz45_3,hfz45_4,hfz45_5,hfz45_6,hfz45_7⟩:=blk8 BK65001.out)|(go_at_call 94;(with_reducible refine (impl_within.calls a0_7 (-99) 99 _ _ A40.out).mono ?_);rintro e w' ⟨rfl,⟨nd,rfl⟩⟩)|((with_reducible refine gate_callee (f:=95) rfl ?_);refine goesL_ (some 81) rfl rfl Tryz.func95 (by kernel_rfl) rfl #[.slice A0_6 l0_6.length c0_6,.func (.func 96) #[] #[]] rfl za4 ?_;(with_reducible refine (slices_ContainsFunc_int_int.calls kj22 _ _ l0_6 t65009 _ ?side1 ?side2 A42.out).mono ?_);(case side1=>repeat (first|exact (Kd.C_below HR0_6.out za3)|(with_reducible refine Kd.C_alloc ?_ _)|(with_reducible refine Kd.C_drewN ?_ _)|(with_reducible refine Kd.C_drew ?_)));(case side2=>exact HC0_6.out);rintro e w' ⟨rfl,⟨nd,rfl⟩⟩;refine ⟨_,rfl,?_⟩)|((with_reducible refine gate_callee (f:=91) rfl ?_);refine goesL_ (some 40) rfl rfl Tryz.func91 (by kernel_rfl) rfl #[.string a0_1] rfl za4 ?_;(with_reducible refine (impl_IsTerm.calls kj22 a0_1 _ _ A26.out).mono ?_);rintro e w' ⟨rfl,⟨nd,rfl⟩⟩;refine ⟨_,rfl,?_⟩)|(go_at_call 93;(with_reducible refine (impl_IsValidRegex.calls kj22 a0_3 a0_4 _ _ l0_5 t65006 _ ?side1 ?side2 A29.out).mono ?_);(case side1=>repeat (first|exact (Kd.C_below HR0_5.out za3)|(with_reducible refine Kd.C_alloc ?_ _)|(with_reducible refine Kd.C_drewN ?_ _)|(with_reducible refine Kd.C_drew ?_)));(case side2=>exact HC0_5.out);rintro e w31 ⟨rfl,hb⟩;have n0_:=zk (zb BK65001.out hb);have n1_:=zk (below_step za3 hb);clear BK65001;clear HB;have BK65001:=n0_;have HB:=n1_;clear n0_ n1_;(try clear hb);(try clear hb2);(try clear hk);(try clear hi)))
            go_ret
            exact ⟨za6,za3⟩
       all_goals
        obtain rfl:=zi H
        obtain ⟨hcz19_0,hcz19_1,hcz19_2,hcz19_3,hcz19_4,hcz19_5,hcz19_6,hcz19_7,hfz19_0,hfz19_1,hfz19_2,hfz19_3,hfz19_4,hfz19_5,hfz19_6,hfz19_7⟩:=blk8 BK65001.out
        go_wp2_with (first|((with_reducible refine gate_callee (f:=91) rfl ?_);refine goesL_ (some 24) rfl rfl Tryz.func91 (by kernel_rfl) rfl #[.string a0_1] rfl za4 ?_;(with_reducible refine (impl_IsTerm.calls kj9 a0_1 _ _ A14.out).mono ?_);rintro e w' ⟨rfl,⟨nd,rfl⟩⟩;refine ⟨_,rfl,?_⟩)|(go_at_call 91;(with_reducible refine (impl_IsTerm.calls kj9 a0_2 _ _ A16.out).mono ?_);rintro e w' ⟨rfl,⟨nd,rfl⟩⟩)|(go_at_call 92;(with_reducible refine (impl_isZeroRegex.calls a0_3 a0_4 _ _ l0_5 t65004 _ ?side1 ?side2 A18.out).mono ?_);(case side1=>repeat (first|exact (Kd.C_below HR0_5.out za3)|(with_reducible refine Kd.C_alloc ?_ _)|(with_reducible refine Kd.C_drewN ?_ _)|(with_reducible refine Kd.C_drew ?_)));(case side2=>exact HC0_5.out);rintro e w20 ⟨rfl,hb⟩;have n0_:=zk (zb BK65001.out hb);have n1_:=zk (below_step za3 hb);clear BK65001;clear HB;have BK65001:=n0_;have HB:=n1_;clear n0_ n1_;(try clear hb);(try clear hb2);(try clear hk);(try clear hi)))
        go_ret
        exact ⟨za6,za3⟩
def impl_VarsOfConstraint.l0:Nat→ByteArray→List Int→Int→Int→Option (ByteArray)
 | 0,_,_,_,_=>none
 | k+1,x3,x15,x16,x17=>if x17 < x16 then (if 0≤x17 then (if x17 < (x15.length:Int) then (if (rd x15 x17)=0 then (impl_VarsOfConstraint.l0 k x3 x15 x16 (wrap64 (x17+1))) else (if x17≤(wrap64 (x17+1)) then (if (wrap64 (x17+1))≤3 then (if x3.size+((⟨#[88,89,90]⟩:ByteArray).extract (x17:Int).toNat ((wrap64 (x17+1)):Int).toNat).size≤9223372036854775807 then (impl_VarsOfConstraint.l0 k (x3 ++ ((⟨#[88,89,90]⟩:ByteArray).extract (x17:Int).toNat ((wrap64 (x17+1)):Int).toNat)) x15 x16 (wrap64 (x17+1))) else (none)) else (none)) else (none))) else (none)) else (none)) else ((impl_VarsOf.f k x3).bind fun t66004=>(some t66004))
def impl_VarsOfConstraint.f (k:Nat) (a0_0:Int) (a0_1:ByteArray) (a0_2:ByteArray) (a0_3:Int) (a0_4:ByteArray) (l0_5:List (S65)) (l0_6:List Int) (a0_7:Int):Option (ByteArray):=(impl_IsValidConstraint.f k a0_0 a0_1 a0_2 a0_3 a0_4 l0_5 l0_6 a0_7).bind fun t66002=>(if t66002=true then (if a0_1.size+a0_2.size≤9223372036854775807 then (impl_VarsOfConstraint.l0 k (a0_1 ++ a0_2) l0_6 (l0_6.length:Int) 0) else (none)) else (some (⟨#[]⟩:ByteArray)))
theorem impl_VarsOfConstraint.mono_l:∀ k,(∀ y0 y1 y2 y3,LeO (impl_VarsOfConstraint.l0 k y0 y1 y2 y3) (impl_VarsOfConstraint.l0 (k+1) y0 y1 y2 y3))
 | 0=>fun _ _ _ _ r h=>by simp [impl_VarsOfConstraint.l0] at h
 | k+1=>by
  have ih0:=impl_VarsOfConstraint.mono_l k
  ·intro y0 y1 y2 y3
   unfold impl_VarsOfConstraint.l0
   repeat' first
   | with_reducible first|exact ih0 _ _ _ _|exact impl_IsValidConstraint.mono _ _ _ _ _ _ _ _ _|exact impl_VarsOf.mono _ _|exact LeO.refl _|exact LeO.none _|refine LeO.ite ?_ ?_|refine LeO.bind ?_ (fun _=>?_)
theorem impl_VarsOfConstraint.mono:∀ a0 a1 a2 a3 a4 a5 a6 a7 k,LeO (impl_VarsOfConstraint.f k a0 a1 a2 a3 a4 a5 a6 a7) (impl_VarsOfConstraint.f (k+1) a0 a1 a2 a3 a4 a5 a6 a7):=by
 intro a0 a1 a2 a3 a4 a5 a6 a7 k
 have ih0:=impl_VarsOfConstraint.mono_l k
 unfold impl_VarsOfConstraint.f
 repeat' first
  | with_reducible first|exact ih0 _ _ _ _|exact impl_IsValidConstraint.mono _ _ _ _ _ _ _ _ _|exact impl_VarsOf.mono _ _|exact LeO.refl _|exact LeO.none _|refine LeO.ite ?_ ?_|refine LeO.bind ?_ (fun _=>?_)
theorem impl_VarsOfConstraint.calls (k:Nat) (a0_0:Int) (a0_1:ByteArray) (a0_2:ByteArray) (a0_3:Int) (a0_4:ByteArray) (A0_5:Option Addr) (c0_5:Nat) (l0_5:List (S65)) (A0_6:Option Addr) (c0_6:Nat) (l0_6:List Int) (a0_7:Int) (r:ByteArray) (w:World) (hr0_5:Kd.C k65 w A0_5 l0_5.length l0_5) (hc0_5:l0_5.length≤c0_5) (hr0_6:Kd.C (Kd.int .i64) w A0_6 l0_6.length l0_6) (hc0_6:l0_6.length≤c0_6) (h:impl_VarsOfConstraint.f k a0_0 a0_1 a0_2 a0_3 a0_4 l0_5 l0_6 a0_7=some r) :
  Calls Tryz.prog 66 #[.agg #[.int .i64 a0_0,.string a0_1,.string a0_2,.int .i64 a0_3,.string a0_4,.slice A0_5 l0_5.length c0_5,.slice A0_6 l0_6.length c0_6,.int .i64 a0_7]] w fun e w'=>e = .returned (.string r)∧Below w.heap.size w w':=by
 have hu67:=Tryz.underlying67
 have HR0_5:=zk hr0_5
 have HC0_5:=zk hc0_5
 clear hr0_5 hc0_5
 have HR0_6:=zk hr0_6
 have HC0_6:=zk hc0_6
 clear hr0_6 hc0_6
 have HB:=zk (Below.refl w.heap.size w)
 have H:((impl_IsValidConstraint.f k a0_0 a0_1 a0_2 a0_3 a0_4 l0_5 l0_6 a0_7).bind fun t66002=>(if t66002=true then (if a0_1.size+a0_2.size≤9223372036854775807 then (impl_VarsOfConstraint.l0 k (a0_1 ++ a0_2) l0_6 (l0_6.length:Int) 0) else (none)) else (some (⟨#[]⟩:ByteArray))))=some r:=h
 clear h
 go_enter Tryz.func66,Tryz.ntmps66
 go_upto_region 1 with (first|((with_reducible refine gate_dst (N:=1) rfl ?_);refine zE (N:=1) (cs:=#[.int .i64 a0_0,.string a0_1,.string a0_2,.int .i64 a0_3,.string a0_4,.slice A0_5 l0_5.length c0_5,.slice A0_6 l0_6.length c0_6,.int .i64 a0_7]) (t:=67) ?_;intro gb66001 hg w5 hbox hb;have n0_:=zk (below_step za3 hb);have n1_:=zk (hbox);have n2_:=zk (zs (w:=w) hg za3);have n3_:=zk (zs (w:=w) hg za3);clear HB;have HB:=n0_;have BK66001:=n1_;have GW66001:=n2_;have GE66001:=n3_;clear n0_ n1_ n2_ n3_;clear hb hbox hg;obtain ⟨hcz6_0,hcz6_1,hcz6_2,hcz6_3,hcz6_4,hcz6_5,hcz6_6,hcz6_7,hfz6_0,hfz6_1,hfz6_2,hfz6_3,hfz6_4,hfz6_5,hfz6_6,hfz6_7⟩:=blk8 BK66001.out))
 replace H:=zo H
 obtain ⟨t66002,A20,H⟩:=H
 replace H:(if t66002=true then (if a0_1.size+a0_2.size≤9223372036854775807 then (impl_VarsOfConstraint.l0 k (a0_1 ++ a0_2) l0_6 (l0_6.length:Int) 0) else (none)) else (some (⟨#[]⟩:ByteArray)))=some r:=H
 have A2:=zk A20
 clear A20
 by_cases c3:t66002=true
 subst c3
 have H1:(if a0_1.size+a0_2.size≤9223372036854775807 then (impl_VarsOfConstraint.l0 k (a0_1 ++ a0_2) l0_6 (l0_6.length:Int) 0) else (none))=some r:=by rw [if_pos rfl] at H;exact H
 clear H
 have H:=H1
 clear H1
 by_cases c4:a0_1.size+a0_2.size≤9223372036854775807
 ·rw [if_pos c4] at H
  have c4z:=c4
  try simp at c4z
  try replace c4z:=eq_false (Nat.not_lt.2 c4z)
  have c4b0:=eq_true c4
  have c4b1:decide (a0_1.size+a0_2.size≤9223372036854775807)=true:=decide_eq_true c4
  try have c4b2:(9223372036854775807 < a0_1.size+a0_2.size)=False:=eq_false (Nat.not_lt.2 c4)
  have H':=zk H
  clear H
  go_wp2_with (first|((with_reducible refine gate_callee (f:=65) rfl ?_);refine goesL_ (some 7) rfl rfl Tryz.func65 (by kernel_rfl) rfl #[.agg #[.int .i64 a0_0,.string a0_1,.string a0_2,.int .i64 a0_3,.string a0_4,.slice A0_5 l0_5.length c0_5,.slice A0_6 l0_6.length c0_6,.int .i64 a0_7]] rfl za4 ?_;(with_reducible refine (impl_IsValidConstraint.calls k a0_0 a0_1 a0_2 a0_3 a0_4 _ _ l0_5 _ _ l0_6 a0_7 _ _ ?side1 ?side2 ?side3 ?side4 A2.out).mono ?_);(case side1=>repeat (first|exact (Kd.C_below HR0_5.out HB.out)|(with_reducible refine Kd.C_alloc ?_ _)|(with_reducible refine Kd.C_drewN ?_ _)|(with_reducible refine Kd.C_drew ?_)));(case side2=>exact HC0_5.out);(case side3=>repeat (first|exact (Kd.C_below HR0_6.out HB.out)|(with_reducible refine Kd.C_alloc ?_ _)|(with_reducible refine Kd.C_drewN ?_ _)|(with_reducible refine Kd.C_drew ?_)));(case side4=>exact HC0_6.out);rintro e w7 ⟨rfl,hb⟩;refine ⟨_,rfl,?_⟩;have n0_:=zk (zb BK66001.out hb);have n1_:=zk (below_step za3 hb);clear BK66001;clear HB;have BK66001:=n0_;have HB:=n1_;clear n0_ n1_;(try clear hb);(try clear hb2);(try clear hk);(try clear hi);obtain ⟨hcz8_0,hcz8_1,hcz8_2,hcz8_3,hcz8_4,hcz8_5,hcz8_6,hcz8_7,hfz8_0,hfz8_1,hfz8_2,hfz8_3,hfz8_4,hfz8_5,hfz8_6,hfz8_7⟩:=blk8 BK66001.out))
  first|go_loopg [3,17] k (fun kq v3 v17 w'=>∃ (x3_1:ByteArray) (x17_1:Int),v3 = .string x3_1∧v17 = .int .i64 x17_1∧Aside0 (impl_VarsOfConstraint.l0 kq x3_1 l0_6 (l0_6.length:Int) x17_1=some r)∧Aside0 (kq≤k)∧Aside0 (w'.heap[gb66001]? = some (.cells #[.int .i64 a0_0,.string a0_1,.string a0_2,.int .i64 a0_3,.string a0_4,(.slice A0_5 l0_5.length c0_5),(.slice A0_6 l0_6.length c0_6),.int .i64 a0_7] 67 (0,0)))∧Aside0 (Below w.heap.size w w'))|(simp only [Act.put,zt,zv,zu];go_loopg [3,17] k (fun kq v3 v17 w'=>∃ (x3_1:ByteArray) (x17_1:Int),v3 = .string x3_1∧v17 = .int .i64 x17_1∧Aside0 (impl_VarsOfConstraint.l0 kq x3_1 l0_6 (l0_6.length:Int) x17_1=some r)∧Aside0 (kq≤k)∧Aside0 (w'.heap[gb66001]? = some (.cells #[.int .i64 a0_0,.string a0_1,.string a0_2,.int .i64 a0_3,.string a0_4,(.slice A0_5 l0_5.length c0_5),(.slice A0_6 l0_6.length c0_6),.int .i64 a0_7] 67 (0,0)))∧Aside0 (Below w.heap.size w w')))
  case atStart=>exact ⟨(a0_1 ++ a0_2),(0),za7,za7,H',⟨Nat.le_refl _⟩,⟨za1 BK66001.out⟩,⟨za3⟩⟩
  case round =>
   clear H'
   try clear c4
   try clear c4b0
   try clear c4b1
   try clear c4b2
   try clear hcz6_0
   try clear hcz6_1
   try clear hcz6_2
   try clear hcz6_3
   try clear hcz6_4
   try clear hcz6_5
   try clear hcz6_6
   try clear hcz6_7
   try clear hcz8_0
   try clear hcz8_1
   try clear hcz8_2
   try clear hcz8_3
   try clear hcz8_4
   try clear hcz8_5
   try clear hcz8_6
   try clear hcz8_7
   try clear hfz6_0
   try clear hfz6_1
   try clear hfz6_2
   try clear hfz6_3
   try clear hfz6_4
   try clear hfz6_5
   try clear hfz6_6
   try clear hfz6_7
   try clear hfz8_0
   try clear hfz8_1
   try clear hfz8_2
   try clear hfz8_3
   try clear hfz8_4
   try clear hfz8_5
   try clear hfz8_6
   try clear hfz8_7
   obtain ⟨x3_1,x17_1,rfl,rfl,HA,HK1,BK66001,HB⟩:=hrel
   cases gk with
   | zero=>exact absurd HA.out (by simp [impl_VarsOfConstraint.l0])
   | succ k1 =>
    have H:=HA.out
    clear HA
    simp only [impl_VarsOfConstraint.l0] at H
    by_cases c9:x17_1 < (l0_6.length:Int)
    rw [if_pos c9] at H
    have c9b0:decide (x17_1 < (l0_6.length:Int))=true:=decide_eq_true c9
    clear c9
    by_cases c10:0≤x17_1
    rw [if_pos c10] at H
    have c10b0:decide (0≤x17_1)=true:=decide_eq_true c10
    clear c10
    by_cases c11:x17_1 < (l0_6.length:Int)
    rw [if_pos c11] at H
    have c11b0:decide (x17_1 < (l0_6.length:Int))=true:=decide_eq_true c11
    clear c11
    by_cases c12:(rd l0_6 x17_1)=0
    rw [if_pos c12] at H
    have c12b0:((rd l0_6 x17_1) == 0)=true:=beq_iff_eq.mpr c12
    have c12b1:((rd l0_6 x17_1) != 0)=false:=bne_eq_false_iff_eq.mpr c12
    clear c12
    have fin0_:=zk trivial
    rotate_left
    rw [if_neg c12] at H
    have c12b0:((rd l0_6 x17_1) == 0)=false:=beq_eq_false_iff_ne.mpr c12
    have c12b1:((rd l0_6 x17_1) != 0)=true:=bne_iff_ne.mpr c12
    have c13b0:=eq_true (of_decide_eq_true za8:0≤x17_1)
    by_cases c14:x17_1≤(wrap64 (x17_1+1))
    rw [if_pos c14] at H
    have c14b0:=eq_true c14
    have c14b1:decide (x17_1≤(wrap64 (x17_1+1)))=true:=decide_eq_true c14
    by_cases c15:(wrap64 (x17_1+1))≤3
    rw [if_pos c15] at H
    have c15b0:=eq_true c15
    have c15b1:decide ((wrap64 (x17_1+1))≤3)=true:=decide_eq_true c15
    by_cases c16:x3_1.size+((⟨#[88,89,90]⟩:ByteArray).extract (x17_1:Int).toNat ((wrap64 (x17_1+1)):Int).toNat).size≤9223372036854775807
    rw [if_pos c16] at H
    have c16z:=c16
    try simp at c16z
    try replace c16z:=eq_false (Nat.not_lt.2 c16z)
    have c16b0:=eq_true c16
    have c16b1:decide (x3_1.size+((⟨#[88,89,90]⟩:ByteArray).extract (x17_1:Int).toNat ((wrap64 (x17_1+1)):Int).toNat).size≤9223372036854775807)=true:=decide_eq_true c16
    try have c16b2:(9223372036854775807 < x3_1.size+((⟨#[88,89,90]⟩:ByteArray).extract (x17_1:Int).toNat ((wrap64 (x17_1+1)):Int).toNat).size)=False:=eq_false (Nat.not_lt.2 c16)
    have fin1_:=zk trivial
    rotate_left
    · rw [if_neg c16] at H
      exact absurd H (by simp)
    · rw [if_neg c15] at H
      exact absurd H (by simp)
    · rw [if_neg c14] at H
      exact absurd H (by simp)
    · rw [if_neg c11] at H
      exact absurd H (by simp)
    · rw [if_neg c10] at H
      exact absurd H (by simp)
    · rw [if_neg c9] at H
      have c9b0:decide (x17_1 < (l0_6.length:Int))=false:=decide_eq_false c9
      clear c9
      replace H:=zo H
      obtain ⟨t66004,A170,H⟩:=H
      replace H:(some t66004)=some r:=H
      have A17:=zk A170
      clear A170
      obtain rfl:=zi H
      go_wp2_with (first|((with_reducible refine gate_callee (f:=67) rfl ?_);refine goesL_ (some 32) rfl rfl Tryz.func67 (by kernel_rfl) rfl #[.string x3_1] rfl za4 ?_;(with_reducible refine (impl_VarsOf.calls k1 x3_1 t66004 _ A17.out).mono ?_);rintro e w' ⟨rfl,⟨nd,rfl⟩⟩;refine ⟨_,rfl,?_⟩))
      go_ret
      exact ⟨za6,za3⟩
    all_goals
     have H':=zk H
     clear H
     have p66003:0≤(x17_1:Int):=of_decide_eq_true za8
     have q66003:x17_1 < (l0_6.length:Int):=of_decide_eq_true za8
     obtain ⟨ad66003,e66003,hx66003_0⟩:=Kd.at_int HR0_6.out x17_1 p66003 q66003
     cases e66003
     replace hx66003_0:=zx HB.out hx66003_0
     replace p66003:=eq_true p66003
     replace q66003:=eq_true q66003
     go_wp2
     first
     | (
       clear fin0_
       go_roundg k1
       case measure=>have:=HK1.out;omega
       case rel=>exact ⟨(x3_1),(wrap64 (x17_1+1)),za7,za7,H',⟨za15⟩,⟨za1 BK66001.out⟩,⟨za3⟩⟩)
     | (
       clear fin1_
       go_roundg k1
       case measure=>have:=HK1.out;omega
       case rel=>exact ⟨(x3_1 ++ ((⟨#[88,89,90]⟩:ByteArray).extract (x17_1:Int).toNat ((wrap64 (x17_1+1)):Int).toNat)),(wrap64 (x17_1+1)),za7,za7,H',⟨za15⟩,⟨za1 BK66001.out⟩,⟨za3⟩⟩)
 ·rw [if_neg c4] at H
  exact absurd H (by simp)
 ·replace c3:=Bool.eq_false_iff.mpr c3
  subst c3
  have H1:(some (⟨#[]⟩:ByteArray))=some r:=by rw [if_neg (show ¬ (false=true) by decide)] at H;exact H
  clear H
  have H:=H1
  clear H1
  obtain rfl:=zi H
  go_wp2_with (first|((with_reducible refine gate_callee (f:=65) rfl ?_);refine goesL_ (some 7) rfl rfl Tryz.func65 (by kernel_rfl) rfl #[.agg #[.int .i64 a0_0,.string a0_1,.string a0_2,.int .i64 a0_3,.string a0_4,.slice A0_5 l0_5.length c0_5,.slice A0_6 l0_6.length c0_6,.int .i64 a0_7]] rfl za4 ?_;(with_reducible refine (impl_IsValidConstraint.calls k a0_0 a0_1 a0_2 a0_3 a0_4 _ _ l0_5 _ _ l0_6 a0_7 _ _ ?side1 ?side2 ?side3 ?side4 A2.out).mono ?_);(case side1=>repeat (first|exact (Kd.C_below HR0_5.out HB.out)|(with_reducible refine Kd.C_alloc ?_ _)|(with_reducible refine Kd.C_drewN ?_ _)|(with_reducible refine Kd.C_drew ?_)));(case side2=>exact HC0_5.out);(case side3=>repeat (first|exact (Kd.C_below HR0_6.out HB.out)|(with_reducible refine Kd.C_alloc ?_ _)|(with_reducible refine Kd.C_drewN ?_ _)|(with_reducible refine Kd.C_drew ?_)));(case side4=>exact HC0_6.out);rintro e w20 ⟨rfl,hb⟩;refine ⟨_,rfl,?_⟩;have n0_:=zk (zb BK66001.out hb);have n1_:=zk (below_step za3 hb);clear BK66001;clear HB;have BK66001:=n0_;have HB:=n1_;clear n0_ n1_;(try clear hb);(try clear hb2);(try clear hk);(try clear hi)))
  go_ret
  exact ⟨za6,za3⟩
def impl_holds.f (a0_0:Int) (a0_1:ByteArray) (a0_2:ByteArray) (a0_3:Int) (a0_4:ByteArray) (l0_5:List (S65)) (l0_6:List Int) (a0_7:Int) (a1_0:ByteArray) (a1_1:ByteArray) (a1_2:ByteArray):Option (Bool):=(impl_ApplyValues.f a0_1 a1_0 a1_1 a1_2).bind fun t44003=>(if a0_0=1 then ((impl_ApplyValues.f a0_2 a1_0 a1_1 a1_2).bind fun t44004=>(some (t44003.toList == t44004.toList))) else (if a0_0=2 then ((impl_ApplyValues.f a0_2 a1_0 a1_1 a1_2).bind fun t44005=>(some (t44003.toList != t44005.toList))) else (if a0_0=3 then ((impl_matches.f a0_3 a0_4 l0_5 t44003).bind fun t44006=>(some t44006)) else (if a0_0=4 then ((impl_matches.f a0_3 a0_4 l0_5 t44003).bind fun t44007=>(some (!t44007))) else (if 0 < (l0_6.length:Int) then (if 1 < (l0_6.length:Int) then (if 2 < (l0_6.length:Int) then (some (decide ((wrap64 ((wrap64 ((wrap64 ((rd l0_6 0) * (a1_0.size:Int)))+(wrap64 ((rd l0_6 1) * (a1_1.size:Int)))))+(wrap64 ((rd l0_6 2) * (a1_2.size:Int)))))≤a0_7))) else (none)) else (none)) else (none))))))
theorem impl_holds.calls (a0_0:Int) (a0_1:ByteArray) (a0_2:ByteArray) (a0_3:Int) (a0_4:ByteArray) (A0_5:Option Addr) (c0_5:Nat) (l0_5:List (S65)) (A0_6:Option Addr) (c0_6:Nat) (l0_6:List Int) (a0_7:Int) (a1_0:ByteArray) (a1_1:ByteArray) (a1_2:ByteArray) (r:Bool) (w:World) (hr0_5:Kd.C k65 w A0_5 l0_5.length l0_5) (hc0_5:l0_5.length≤c0_5) (hr0_6:Kd.C (Kd.int .i64) w A0_6 l0_6.length l0_6) (hc0_6:l0_6.length≤c0_6) (h:impl_holds.f a0_0 a0_1 a0_2 a0_3 a0_4 l0_5 l0_6 a0_7 a1_0 a1_1 a1_2=some r) :
  Calls Tryz.prog 44 #[.agg #[.int .i64 a0_0,.string a0_1,.string a0_2,.int .i64 a0_3,.string a0_4,.slice A0_5 l0_5.length c0_5,.slice A0_6 l0_6.length c0_6,.int .i64 a0_7],.agg #[.string a1_0,.string a1_1,.string a1_2]] w fun e w'=>e = .returned (.bool r)∧Below w.heap.size w w':=by
 have hu67:=Tryz.underlying67
 have hu32:=Tryz.underlying32
 have hu65:=Tryz.underlying65
 have HR0_5:=zk hr0_5
 have HC0_5:=zk hc0_5
 clear hr0_5 hc0_5
 have HR0_6:=zk hr0_6
 have HC0_6:=zk hc0_6
 clear hr0_6 hc0_6
 have HB:=zk (Below.refl w.heap.size w)
 have H:((impl_ApplyValues.f a0_1 a1_0 a1_1 a1_2).bind fun t44003=>(if a0_0=1 then ((impl_ApplyValues.f a0_2 a1_0 a1_1 a1_2).bind fun t44004=>(some (t44003.toList == t44004.toList))) else (if a0_0=2 then ((impl_ApplyValues.f a0_2 a1_0 a1_1 a1_2).bind fun t44005=>(some (t44003.toList != t44005.toList))) else (if a0_0=3 then ((impl_matches.f a0_3 a0_4 l0_5 t44003).bind fun t44006=>(some t44006)) else (if a0_0=4 then ((impl_matches.f a0_3 a0_4 l0_5 t44003).bind fun t44007=>(some (!t44007))) else (if 0 < (l0_6.length:Int) then (if 1 < (l0_6.length:Int) then (if 2 < (l0_6.length:Int) then (some (decide ((wrap64 ((wrap64 ((wrap64 ((rd l0_6 0) * (a1_0.size:Int)))+(wrap64 ((rd l0_6 1) * (a1_1.size:Int)))))+(wrap64 ((rd l0_6 2) * (a1_2.size:Int)))))≤a0_7))) else (none)) else (none)) else (none)))))))=some r:=h
 clear h
 go_enter Tryz.func44,Tryz.ntmps44
 go_upto_region 1 with (first|((with_reducible refine gate_dst (N:=2) rfl ?_);refine zE (N:=2) (cs:=#[.int .i64 a0_0,.string a0_1,.string a0_2,.int .i64 a0_3,.string a0_4,.slice A0_5 l0_5.length c0_5,.slice A0_6 l0_6.length c0_6,.int .i64 a0_7]) (t:=67) ?_;intro gb44001 hg w6 hbox hb;have n0_:=zk (below_step za3 hb);have n1_:=zk (hbox);have n2_:=zk (zs (w:=w) hg za3);have n3_:=zk (zs (w:=w) hg za3);clear HB;have HB:=n0_;have BK44001:=n1_;have GW44001:=n2_;have GE44001:=n3_;clear n0_ n1_ n2_ n3_;clear hb hbox hg)|((with_reducible refine gate_dst (N:=3) rfl ?_);refine zE (N:=3) (cs:=#[.string a1_0,.string a1_1,.string a1_2]) (t:=32) ?_;intro gb44002 hg w7 hbox hb;have n0_:=zk (zb BK44001.out hb);have n1_:=zk (below_step za3 hb);have n2_:=zk (hbox);have n3_:=zk (zs (w:=w) hg za3);have n4_:=zk (zs (w:=w) hg za3);have n5_:=zk ((by rw [hg];exact Nat.ne_of_lt (zl BK44001.out):gb44001 ≠ gb44002));have n6_:=zk ((by rw [hg];exact Nat.ne_of_gt (zl BK44001.out):gb44002 ≠ gb44001));clear BK44001;clear HB;have BK44001:=n0_;have HB:=n1_;have BK44002:=n2_;have GW44002:=n3_;have GE44002:=n4_;have NB44001_44002:=n5_;have NB44002_44001:=n6_;clear n0_ n1_ n2_ n3_ n4_ n5_ n6_;clear hb hbox hg;have hnb8:=NB44001_44002.out;have hnc8:=NB44002_44001.out;obtain ⟨hcz9_0,hcz9_1,hcz9_2,hcz9_3,hcz9_4,hcz9_5,hcz9_6,hcz9_7,hfz9_0,hfz9_1,hfz9_2,hfz9_3,hfz9_4,hfz9_5,hfz9_6,hfz9_7⟩:=blk8 BK44001.out;obtain ⟨hcz10_0,hcz10_1,hcz10_2,hfz10_0,hfz10_1,hfz10_2⟩:=blk3 BK44002.out))
 replace H:=zo H
 obtain ⟨t44003,A30,H⟩:=H
 replace H:(if a0_0=1 then ((impl_ApplyValues.f a0_2 a1_0 a1_1 a1_2).bind fun t44004=>(some (t44003.toList == t44004.toList))) else (if a0_0=2 then ((impl_ApplyValues.f a0_2 a1_0 a1_1 a1_2).bind fun t44005=>(some (t44003.toList != t44005.toList))) else (if a0_0=3 then ((impl_matches.f a0_3 a0_4 l0_5 t44003).bind fun t44006=>(some t44006)) else (if a0_0=4 then ((impl_matches.f a0_3 a0_4 l0_5 t44003).bind fun t44007=>(some (!t44007))) else (if 0 < (l0_6.length:Int) then (if 1 < (l0_6.length:Int) then (if 2 < (l0_6.length:Int) then (some (decide ((wrap64 ((wrap64 ((wrap64 ((rd l0_6 0) * (a1_0.size:Int)))+(wrap64 ((rd l0_6 1) * (a1_1.size:Int)))))+(wrap64 ((rd l0_6 2) * (a1_2.size:Int)))))≤a0_7))) else (none)) else (none)) else (none))))))=some r:=H
 have A3:=zk A30
 clear A30
 by_cases c4:a0_0=1
 ·rw [if_pos c4] at H
  have c4b0:(a0_0 == 1)=true:=beq_iff_eq.mpr c4
  have c4b1:(a0_0 != 1)=false:=bne_eq_false_iff_eq.mpr c4
  clear c4
  replace H:=zo H
  obtain ⟨t44004,A50,H⟩:=H
  replace H:(some (t44003.toList == t44004.toList))=some r:=H
  have A5:=zk A50
  clear A50
  obtain rfl:=zi H
  go_wp2_with (first|(go_at_call 77;(with_reducible refine (impl_ApplyValues.calls a0_1 a1_0 a1_1 a1_2 t44003 _ A3.out).mono ?_);rintro e w11 ⟨rfl,hb⟩;have n0_:=zk (zb BK44001.out hb);have n1_:=zk (zb BK44002.out hb);have n2_:=zk (below_step za3 hb);clear BK44001;clear BK44002;clear HB;have BK44001:=n0_;have BK44002:=n1_;have HB:=n2_;clear n0_ n1_ n2_;(try clear hb);(try clear hb2);(try clear hk);(try clear hi);obtain ⟨hcz12_0,hcz12_1,hcz12_2,hcz12_3,hcz12_4,hcz12_5,hcz12_6,hcz12_7,hfz12_0,hfz12_1,hfz12_2,hfz12_3,hfz12_4,hfz12_5,hfz12_6,hfz12_7⟩:=blk8 BK44001.out;obtain ⟨hcz13_0,hcz13_1,hcz13_2,hfz13_0,hfz13_1,hfz13_2⟩:=blk3 BK44002.out)|(go_at_call 77;(with_reducible refine (impl_ApplyValues.calls a0_2 a1_0 a1_1 a1_2 t44004 _ A5.out).mono ?_);rintro e w14 ⟨rfl,hb⟩;have n0_:=zk (zb BK44001.out hb);have n1_:=zk (zb BK44002.out hb);have n2_:=zk (below_step za3 hb);clear BK44001;clear BK44002;clear HB;have BK44001:=n0_;have BK44002:=n1_;have HB:=n2_;clear n0_ n1_ n2_;(try clear hb);(try clear hb2);(try clear hk);(try clear hi)))
  repeat (go_quiet (first|(go_at_call 77;(with_reducible refine (impl_ApplyValues.calls a0_1 a1_0 a1_1 a1_2 t44003 _ A3.out).mono ?_);rintro e w11 ⟨rfl,hb⟩;have n0_:=zk (zb BK44001.out hb);have n1_:=zk (zb BK44002.out hb);have n2_:=zk (below_step za3 hb);clear BK44001;clear BK44002;clear HB;have BK44001:=n0_;have BK44002:=n1_;have HB:=n2_;clear n0_ n1_ n2_;(try clear hb);(try clear hb2);(try clear hk);(try clear hi);obtain ⟨hcz12_0,hcz12_1,hcz12_2,hcz12_3,hcz12_4,hcz12_5,hcz12_6,hcz12_7,hfz12_0,hfz12_1,hfz12_2,hfz12_3,hfz12_4,hfz12_5,hfz12_6,hfz12_7⟩:=blk8 BK44001.out;obtain ⟨hcz13_0,hcz13_1,hcz13_2,hfz13_0,hfz13_1,hfz13_2⟩:=blk3 BK44002.out)|(go_at_call 77;(with_reducible refine (impl_ApplyValues.calls a0_2 a1_0 a1_1 a1_2 t44004 _ A5.out).mono ?_);rintro e w14 ⟨rfl,hb⟩;have n0_:=zk (zb BK44001.out hb);have n1_:=zk (zb BK44002.out hb);have n2_:=zk (below_step za3 hb);clear BK44001;clear BK44002;clear HB;have BK44001:=n0_;have BK44002:=n1_;have HB:=n2_;clear n0_ n1_ n2_;(try clear hb);(try clear hb2);(try clear hk);(try clear hi)));try go_wp2_with (first|((with_reducible refine gate_dst (N:=2) rfl ?_);refine zE (N:=2) (cs:=#[.int .i64 a0_0,.string a0_1,.string a0_2,.int .i64 a0_3,.string a0_4,.slice A0_5 l0_5.length c0_5,.slice A0_6 l0_6.length c0_6,.int .i64 a0_7]) (t:=67) ?_;intro gb44001 hg w6 hbox hb;have n0_:=zk (below_step za3 hb);have n1_:=zk (hbox);have n2_:=zk (zs (w:=w) hg za3);have n3_:=zk (zs (w:=w) hg za3);clear HB;have HB:=n0_;have BK44001:=n1_;have GW44001:=n2_;have GE44001:=n3_;clear n0_ n1_ n2_ n3_;clear hb hbox hg)|((with_reducible refine gate_dst (N:=3) rfl ?_);refine zE (N:=3) (cs:=#[.string a1_0,.string a1_1,.string a1_2]) (t:=32) ?_;intro gb44002 hg w7 hbox hb;have n0_:=zk (zb BK44001.out hb);have n1_:=zk (below_step za3 hb);have n2_:=zk (hbox);have n3_:=zk (zs (w:=w) hg za3);have n4_:=zk (zs (w:=w) hg za3);have n5_:=zk ((by rw [hg];exact Nat.ne_of_lt (zl BK44001.out):gb44001 ≠ gb44002));have n6_:=zk ((by rw [hg];exact Nat.ne_of_gt (zl BK44001.out):gb44002 ≠ gb44001));clear BK44001;clear HB;have BK44001:=n0_;have HB:=n1_;have BK44002:=n2_;have GW44002:=n3_;have GE44002:=n4_;have NB44001_44002:=n5_;have NB44002_44001:=n6_;clear n0_ n1_ n2_ n3_ n4_ n5_ n6_;clear hb hbox hg;have hnb8:=NB44001_44002.out;have hnc8:=NB44002_44001.out;obtain ⟨hcz9_0,hcz9_1,hcz9_2,hcz9_3,hcz9_4,hcz9_5,hcz9_6,hcz9_7,hfz9_0,hfz9_1,hfz9_2,hfz9_3,hfz9_4,hfz9_5,hfz9_6,hfz9_7⟩:=blk8 BK44001.out;obtain ⟨hcz10_0,hcz10_1,hcz10_2,hfz10_0,hfz10_1,hfz10_2⟩:=blk3 BK44002.out)|(go_at_call 77;(with_reducible refine (impl_ApplyValues.calls a0_1 a1_0 a1_1 a1_2 t44003 _ A3.out).mono ?_);rintro e w11 ⟨rfl,hb⟩;have n0_:=zk (zb BK44001.out hb);have n1_:=zk (zb BK44002.out hb);have n2_:=zk (below_step za3 hb);clear BK44001;clear BK44002;clear HB;have BK44001:=n0_;have BK44002:=n1_;have HB:=n2_;clear n0_ n1_ n2_;(try clear hb);(try clear hb2);(try clear hk);(try clear hi);obtain ⟨hcz12_0,hcz12_1,hcz12_2,hcz12_3,hcz12_4,hcz12_5,hcz12_6,hcz12_7,hfz12_0,hfz12_1,hfz12_2,hfz12_3,hfz12_4,hfz12_5,hfz12_6,hfz12_7⟩:=blk8 BK44001.out;obtain ⟨hcz13_0,hcz13_1,hcz13_2,hfz13_0,hfz13_1,hfz13_2⟩:=blk3 BK44002.out)|(go_at_call 77;(with_reducible refine (impl_ApplyValues.calls a0_2 a1_0 a1_1 a1_2 t44004 _ A5.out).mono ?_);rintro e w14 ⟨rfl,hb⟩;have n0_:=zk (zb BK44001.out hb);have n1_:=zk (zb BK44002.out hb);have n2_:=zk (below_step za3 hb);clear BK44001;clear BK44002;clear HB;have BK44001:=n0_;have BK44002:=n1_;have HB:=n2_;clear n0_ n1_ n2_;(try clear hb);(try clear hb2);(try clear hk);(try clear hi))))
  go_ret
  exact ⟨za6,za3⟩
 rw [if_neg c4] at H
 have c4b0:(a0_0 == 1)=false:=beq_eq_false_iff_ne.mpr c4
 have c4b1:(a0_0 != 1)=true:=bne_iff_ne.mpr c4
 by_cases c15:a0_0=2
 ·rw [if_pos c15] at H
  have c15b0:(a0_0 == 2)=true:=beq_iff_eq.mpr c15
  have c15b1:(a0_0 != 2)=false:=bne_eq_false_iff_eq.mpr c15
  clear c15
  replace H:=zo H
  obtain ⟨t44005,A160,H⟩:=H
  replace H:(some (t44003.toList != t44005.toList))=some r:=H
  have A16:=zk A160
  clear A160
  obtain rfl:=zi H
  go_wp2_with (first|(go_at_call 77;(with_reducible refine (impl_ApplyValues.calls a0_1 a1_0 a1_1 a1_2 t44003 _ A3.out).mono ?_);rintro e w22 ⟨rfl,hb⟩;have n0_:=zk (zb BK44001.out hb);have n1_:=zk (zb BK44002.out hb);have n2_:=zk (below_step za3 hb);clear BK44001;clear BK44002;clear HB;have BK44001:=n0_;have BK44002:=n1_;have HB:=n2_;clear n0_ n1_ n2_;(try clear hb);(try clear hb2);(try clear hk);(try clear hi);obtain ⟨hcz23_0,hcz23_1,hcz23_2,hcz23_3,hcz23_4,hcz23_5,hcz23_6,hcz23_7,hfz23_0,hfz23_1,hfz23_2,hfz23_3,hfz23_4,hfz23_5,hfz23_6,hfz23_7⟩:=blk8 BK44001.out;obtain ⟨hcz24_0,hcz24_1,hcz24_2,hfz24_0,hfz24_1,hfz24_2⟩:=blk3 BK44002.out)|(go_at_call 77;(with_reducible refine (impl_ApplyValues.calls a0_2 a1_0 a1_1 a1_2 t44005 _ A16.out).mono ?_);rintro e w25 ⟨rfl,hb⟩;have n0_:=zk (zb BK44001.out hb);have n1_:=zk (zb BK44002.out hb);have n2_:=zk (below_step za3 hb);clear BK44001;clear BK44002;clear HB;have BK44001:=n0_;have BK44002:=n1_;have HB:=n2_;clear n0_ n1_ n2_;(try clear hb);(try clear hb2);(try clear hk);(try clear hi)))
  repeat (go_quiet (first|(go_at_call 77;(with_reducible refine (impl_ApplyValues.calls a0_1 a1_0 a1_1 a1_2 t44003 _ A3.out).mono ?_);rintro e w22 ⟨rfl,hb⟩;have n0_:=zk (zb BK44001.out hb);have n1_:=zk (zb BK44002.out hb);have n2_:=zk (below_step za3 hb);clear BK44001;clear BK44002;clear HB;have BK44001:=n0_;have BK44002:=n1_;have HB:=n2_;clear n0_ n1_ n2_;(try clear hb);(try clear hb2);(try clear hk);(try clear hi);obtain ⟨hcz23_0,hcz23_1,hcz23_2,hcz23_3,hcz23_4,hcz23_5,hcz23_6,hcz23_7,hfz23_0,hfz23_1,hfz23_2,hfz23_3,hfz23_4,hfz23_5,hfz23_6,hfz23_7⟩:=blk8 BK44001.out;obtain ⟨hcz24_0,hcz24_1,hcz24_2,hfz24_0,hfz24_1,hfz24_2⟩:=blk3 BK44002.out)|(go_at_call 77;(with_reducible refine (impl_ApplyValues.calls a0_2 a1_0 a1_1 a1_2 t44005 _ A16.out).mono ?_);rintro e w25 ⟨rfl,hb⟩;have n0_:=zk (zb BK44001.out hb);have n1_:=zk (zb BK44002.out hb);have n2_:=zk (below_step za3 hb);clear BK44001;clear BK44002;clear HB;have BK44001:=n0_;have BK44002:=n1_;have HB:=n2_;clear n0_ n1_ n2_;(try clear hb);(try clear hb2);(try clear hk);(try clear hi)));try go_wp2_with (first|((with_reducible refine gate_dst (N:=2) rfl ?_);refine zE (N:=2) (cs:=#[.int .i64 a0_0,.string a0_1,.string a0_2,.int .i64 a0_3,.string a0_4,.slice A0_5 l0_5.length c0_5,.slice A0_6 l0_6.length c0_6,.int .i64 a0_7]) (t:=67) ?_;intro gb44001 hg w6 hbox hb;have n0_:=zk (below_step za3 hb);have n1_:=zk (hbox);have n2_:=zk (zs (w:=w) hg za3);have n3_:=zk (zs (w:=w) hg za3);clear HB;have HB:=n0_;have BK44001:=n1_;have GW44001:=n2_;have GE44001:=n3_;clear n0_ n1_ n2_ n3_;clear hb hbox hg)|((with_reducible refine gate_dst (N:=3) rfl ?_);refine zE (N:=3) (cs:=#[.string a1_0,.string a1_1,.string a1_2]) (t:=32) ?_;intro gb44002 hg w7 hbox hb;have n0_:=zk (zb BK44001.out hb);have n1_:=zk (below_step za3 hb);have n2_:=zk (hbox);have n3_:=zk (zs (w:=w) hg za3);have n4_:=zk (zs (w:=w) hg za3);have n5_:=zk ((by rw [hg];exact Nat.ne_of_lt (zl BK44001.out):gb44001 ≠ gb44002));have n6_:=zk ((by rw [hg];exact Nat.ne_of_gt (zl BK44001.out):gb44002 ≠ gb44001));clear BK44001;clear HB;have BK44001:=n0_;have HB:=n1_;have BK44002:=n2_;have GW44002:=n3_;have GE44002:=n4_;have NB44001_44002:=n5_;have NB44002_44001:=n6_;clear n0_ n1_ n2_ n3_ n4_ n5_ n6_;clear hb hbox hg;have hnb8:=NB44001_44002.out;have hnc8:=NB44002_44001.out;obtain ⟨hcz9_0,hcz9_1,hcz9_2,hcz9_3,hcz9_4,hcz9_5,hcz9_6,hcz9_7,hfz9_0,hfz9_1,hfz9_2,hfz9_3,hfz9_4,hfz9_5,hfz9_6,hfz9_7⟩:=blk8 BK44001.out;obtain ⟨hcz10_0,hcz10_1,hcz10_2,hfz10_0,hfz10_1,hfz10_2⟩:=blk3 BK44002.out)|(go_at_call 77;(with_reducible refine (impl_ApplyValues.calls a0_1 a1_0 a1_1 a1_2 t44003 _ A3.out).mono ?_);rintro e w22 ⟨rfl,hb⟩;have n0_:=zk (zb BK44001.out hb);have n1_:=zk (zb BK44002.out hb);have n2_:=zk (below_step za3 hb);clear BK44001;clear BK44002;clear HB;have BK44001:=n0_;have BK44002:=n1_;have HB:=n2_;clear n0_ n1_ n2_;(try clear hb);(try clear hb2);(try clear hk);(try clear hi);obtain ⟨hcz23_0,hcz23_1,hcz23_2,hcz23_3,hcz23_4,hcz23_5,hcz23_6,hcz23_7,hfz23_0,hfz23_1,hfz23_2,hfz23_3,hfz23_4,hfz23_5,hfz23_6,hfz23_7⟩:=blk8 BK44001.out;obtain ⟨hcz24_0,hcz24_1,hcz24_2,hfz24_0,hfz24_1,hfz24_2⟩:=blk3 BK44002.out)|(go_at_call 77;(with_reducible refine (impl_ApplyValues.calls a0_2 a1_0 a1_1 a1_2 t44005 _ A16.out).mono ?_);rintro e w25 ⟨rfl,hb⟩;have n0_:=zk (zb BK44001.out hb);have n1_:=zk (zb BK44002.out hb);have n2_:=zk (below_step za3 hb);clear BK44001;clear BK44002;clear HB;have BK44001:=n0_;have BK44002:=n1_;have HB:=n2_;clear n0_ n1_ n2_;(try clear hb);(try clear hb2);(try clear hk);(try clear hi))))
  go_ret
  exact ⟨za6,za3⟩
 rw [if_neg c15] at H
 have c15b0:(a0_0 == 2)=false:=beq_eq_false_iff_ne.mpr c15
 have c15b1:(a0_0 != 2)=true:=bne_iff_ne.mpr c15
 by_cases c26:a0_0=3
 ·rw [if_pos c26] at H
  have c26b0:(a0_0 == 3)=true:=beq_iff_eq.mpr c26
  have c26b1:(a0_0 != 3)=false:=bne_eq_false_iff_eq.mpr c26
  clear c26
  replace H:=zo H
  obtain ⟨t44006,A270,H⟩:=H
  replace H:(some t44006)=some r:=H
  have A27:=zk A270
  clear A270
  obtain rfl:=zi H
  go_wp2_with (first|(go_at_call 77;(with_reducible refine (impl_ApplyValues.calls a0_1 a1_0 a1_1 a1_2 t44003 _ A3.out).mono ?_);rintro e w33 ⟨rfl,hb⟩;have n0_:=zk (zb BK44001.out hb);have n1_:=zk (zb BK44002.out hb);have n2_:=zk (below_step za3 hb);clear BK44001;clear BK44002;clear HB;have BK44001:=n0_;have BK44002:=n1_;have HB:=n2_;clear n0_ n1_ n2_;(try clear hb);(try clear hb2);(try clear hk);(try clear hi);obtain ⟨hcz34_0,hcz34_1,hcz34_2,hcz34_3,hcz34_4,hcz34_5,hcz34_6,hcz34_7,hfz34_0,hfz34_1,hfz34_2,hfz34_3,hfz34_4,hfz34_5,hfz34_6,hfz34_7⟩:=blk8 BK44001.out)|(go_at_call 78;(with_reducible refine (impl_matches.calls a0_3 a0_4 _ _ l0_5 t44003 t44006 _ ?side1 ?side2 A27.out).mono ?_);(case side1=>repeat (first|exact (Kd.C_below HR0_5.out HB.out)|(with_reducible refine Kd.C_alloc ?_ _)|(with_reducible refine Kd.C_drewN ?_ _)|(with_reducible refine Kd.C_drew ?_)));(case side2=>exact HC0_5.out);rintro e w35 ⟨rfl,hb⟩;have n0_:=zk (zb BK44001.out hb);have n1_:=zk (zb BK44002.out hb);have n2_:=zk (below_step za3 hb);clear BK44001;clear BK44002;clear HB;have BK44001:=n0_;have BK44002:=n1_;have HB:=n2_;clear n0_ n1_ n2_;(try clear hb);(try clear hb2);(try clear hk);(try clear hi)))
  repeat (go_quiet (first|(go_at_call 77;(with_reducible refine (impl_ApplyValues.calls a0_1 a1_0 a1_1 a1_2 t44003 _ A3.out).mono ?_);rintro e w33 ⟨rfl,hb⟩;have n0_:=zk (zb BK44001.out hb);have n1_:=zk (zb BK44002.out hb);have n2_:=zk (below_step za3 hb);clear BK44001;clear BK44002;clear HB;have BK44001:=n0_;have BK44002:=n1_;have HB:=n2_;clear n0_ n1_ n2_;(try clear hb);(try clear hb2);(try clear hk);(try clear hi);obtain ⟨hcz34_0,hcz34_1,hcz34_2,hcz34_3,hcz34_4,hcz34_5,hcz34_6,hcz34_7,hfz34_0,hfz34_1,hfz34_2,hfz34_3,hfz34_4,hfz34_5,hfz34_6,hfz34_7⟩:=blk8 BK44001.out)|(go_at_call 78;(with_reducible refine (impl_matches.calls a0_3 a0_4 _ _ l0_5 t44003 t44006 _ ?side1 ?side2 A27.out).mono ?_);(case side1=>repeat (first|exact (Kd.C_below HR0_5.out HB.out)|(with_reducible refine Kd.C_alloc ?_ _)|(with_reducible refine Kd.C_drewN ?_ _)|(with_reducible refine Kd.C_drew ?_)));(case side2=>exact HC0_5.out);rintro e w35 ⟨rfl,hb⟩;have n0_:=zk (zb BK44001.out hb);have n1_:=zk (zb BK44002.out hb);have n2_:=zk (below_step za3 hb);clear BK44001;clear BK44002;clear HB;have BK44001:=n0_;have BK44002:=n1_;have HB:=n2_;clear n0_ n1_ n2_;(try clear hb);(try clear hb2);(try clear hk);(try clear hi)));try go_wp2_with (first|((with_reducible refine gate_dst (N:=2) rfl ?_);refine zE (N:=2) (cs:=#[.int .i64 a0_0,.string a0_1,.string a0_2,.int .i64 a0_3,.string a0_4,.slice A0_5 l0_5.length c0_5,.slice A0_6 l0_6.length c0_6,.int .i64 a0_7]) (t:=67) ?_;intro gb44001 hg w6 hbox hb;have n0_:=zk (below_step za3 hb);have n1_:=zk (hbox);have n2_:=zk (zs (w:=w) hg za3);have n3_:=zk (zs (w:=w) hg za3);clear HB;have HB:=n0_;have BK44001:=n1_;have GW44001:=n2_;have GE44001:=n3_;clear n0_ n1_ n2_ n3_;clear hb hbox hg)|((with_reducible refine gate_dst (N:=3) rfl ?_);refine zE (N:=3) (cs:=#[.string a1_0,.string a1_1,.string a1_2]) (t:=32) ?_;intro gb44002 hg w7 hbox hb;have n0_:=zk (zb BK44001.out hb);have n1_:=zk (below_step za3 hb);have n2_:=zk (hbox);have n3_:=zk (zs (w:=w) hg za3);have n4_:=zk (zs (w:=w) hg za3);have n5_:=zk ((by rw [hg];exact Nat.ne_of_lt (zl BK44001.out):gb44001 ≠ gb44002));have n6_:=zk ((by rw [hg];exact Nat.ne_of_gt (zl BK44001.out):gb44002 ≠ gb44001));clear BK44001;clear HB;have BK44001:=n0_;have HB:=n1_;have BK44002:=n2_;have GW44002:=n3_;have GE44002:=n4_;have NB44001_44002:=n5_;have NB44002_44001:=n6_;clear n0_ n1_ n2_ n3_ n4_ n5_ n6_;clear hb hbox hg;have hnb8:=NB44001_44002.out;have hnc8:=NB44002_44001.out;obtain ⟨hcz9_0,hcz9_1,hcz9_2,hcz9_3,hcz9_4,hcz9_5,hcz9_6,hcz9_7,hfz9_0,hfz9_1,hfz9_2,hfz9_3,hfz9_4,hfz9_5,hfz9_6,hfz9_7⟩:=blk8 BK44001.out;obtain ⟨hcz10_0,hcz10_1,hcz10_2,hfz10_0,hfz10_1,hfz10_2⟩:=blk3 BK44002.out)|(go_at_call 77;(with_reducible refine (impl_ApplyValues.calls a0_1 a1_0 a1_1 a1_2 t44003 _ A3.out).mono ?_);rintro e w33 ⟨rfl,hb⟩;have n0_:=zk (zb BK44001.out hb);have n1_:=zk (zb BK44002.out hb);have n2_:=zk (below_step za3 hb);clear BK44001;clear BK44002;clear HB;have BK44001:=n0_;have BK44002:=n1_;have HB:=n2_;clear n0_ n1_ n2_;(try clear hb);(try clear hb2);(try clear hk);(try clear hi);obtain ⟨hcz34_0,hcz34_1,hcz34_2,hcz34_3,hcz34_4,hcz34_5,hcz34_6,hcz34_7,hfz34_0,hfz34_1,hfz34_2,hfz34_3,hfz34_4,hfz34_5,hfz34_6,hfz34_7⟩:=blk8 BK44001.out)|(go_at_call 78;(with_reducible refine (impl_matches.calls a0_3 a0_4 _ _ l0_5 t44003 t44006 _ ?side1 ?side2 A27.out).mono ?_);(case side1=>repeat (first|exact (Kd.C_below HR0_5.out HB.out)|(with_reducible refine Kd.C_alloc ?_ _)|(with_reducible refine Kd.C_drewN ?_ _)|(with_reducible refine Kd.C_drew ?_)));(case side2=>exact HC0_5.out);rintro e w35 ⟨rfl,hb⟩;have n0_:=zk (zb BK44001.out hb);have n1_:=zk (zb BK44002.out hb);have n2_:=zk (below_step za3 hb);clear BK44001;clear BK44002;clear HB;have BK44001:=n0_;have BK44002:=n1_;have HB:=n2_;clear n0_ n1_ n2_;(try clear hb);(try clear hb2);(try clear hk);(try clear hi))))
  go_ret
  exact ⟨za6,za3⟩
 rw [if_neg c26] at H
 have c26b0:(a0_0 == 3)=false:=beq_eq_false_iff_ne.mpr c26
 have c26b1:(a0_0 != 3)=true:=bne_iff_ne.mpr c26
 by_cases c36:a0_0=4
 ·rw [if_pos c36] at H
  have c36b0:(a0_0 == 4)=true:=beq_iff_eq.mpr c36
  have c36b1:(a0_0 != 4)=false:=bne_eq_false_iff_eq.mpr c36
  clear c36
  replace H:=zo H
  obtain ⟨t44007,A370,H⟩:=H
  replace H:(some (!t44007))=some r:=H
  have A37:=zk A370
  clear A370
  obtain rfl:=zi H
  go_wp2_with (first|(go_at_call 77;(with_reducible refine (impl_ApplyValues.calls a0_1 a1_0 a1_1 a1_2 t44003 _ A3.out).mono ?_);rintro e w43 ⟨rfl,hb⟩;have n0_:=zk (zb BK44001.out hb);have n1_:=zk (zb BK44002.out hb);have n2_:=zk (below_step za3 hb);clear BK44001;clear BK44002;clear HB;have BK44001:=n0_;have BK44002:=n1_;have HB:=n2_;clear n0_ n1_ n2_;(try clear hb);(try clear hb2);(try clear hk);(try clear hi);obtain ⟨hcz44_0,hcz44_1,hcz44_2,hcz44_3,hcz44_4,hcz44_5,hcz44_6,hcz44_7,hfz44_0,hfz44_1,hfz44_2,hfz44_3,hfz44_4,hfz44_5,hfz44_6,hfz44_7⟩:=blk8 BK44001.out)|(go_at_call 78;(with_reducible refine (impl_matches.calls a0_3 a0_4 _ _ l0_5 t44003 t44007 _ ?side1 ?side2 A37.out).mono ?_);(case side1=>repeat (first|exact (Kd.C_below HR0_5.out HB.out)|(with_reducible refine Kd.C_alloc ?_ _)|(with_reducible refine Kd.C_drewN ?_ _)|(with_reducible refine Kd.C_drew ?_)));(case side2=>exact HC0_5.out);rintro e w45 ⟨rfl,hb⟩;have n0_:=zk (zb BK44001.out hb);have n1_:=zk (zb BK44002.out hb);have n2_:=zk (below_step za3 hb);clear BK44001;clear BK44002;clear HB;have BK44001:=n0_;have BK44002:=n1_;have HB:=n2_;clear n0_ n1_ n2_;(try clear hb);(try clear hb2);(try clear hk);(try clear hi)))
  repeat (go_quiet (first|(go_at_call 77;(with_reducible refine (impl_ApplyValues.calls a0_1 a1_0 a1_1 a1_2 t44003 _ A3.out).mono ?_);rintro e w43 ⟨rfl,hb⟩;have n0_:=zk (zb BK44001.out hb);have n1_:=zk (zb BK44002.out hb);have n2_:=zk (below_step za3 hb);clear BK44001;clear BK44002;clear HB;have BK44001:=n0_;have BK44002:=n1_;have HB:=n2_;clear n0_ n1_ n2_;(try clear hb);(try clear hb2);(try clear hk);(try clear hi);obtain ⟨hcz44_0,hcz44_1,hcz44_2,hcz44_3,hcz44_4,hcz44_5,hcz44_6,hcz44_7,hfz44_0,hfz44_1,hfz44_2,hfz44_3,hfz44_4,hfz44_5,hfz44_6,hfz44_7⟩:=blk8 BK44001.out)|(go_at_call 78;(with_reducible refine (impl_matches.calls a0_3 a0_4 _ _ l0_5 t44003 t44007 _ ?side1 ?side2 A37.out).mono ?_);(case side1=>repeat (first|exact (Kd.C_below HR0_5.out HB.out)|(with_reducible refine Kd.C_alloc ?_ _)|(with_reducible refine Kd.C_drewN ?_ _)|(with_reducible refine Kd.C_drew ?_)));(case side2=>exact HC0_5.out);rintro e w45 ⟨rfl,hb⟩;have n0_:=zk (zb BK44001.out hb);have n1_:=zk (zb BK44002.out hb);have n2_:=zk (below_step za3 hb);clear BK44001;clear BK44002;clear HB;have BK44001:=n0_;have BK44002:=n1_;have HB:=n2_;clear n0_ n1_ n2_;(try clear hb);(try clear hb2);(try clear hk);(try clear hi)));try go_wp2_with (first|((with_reducible refine gate_dst (N:=2) rfl ?_);refine zE (N:=2) (cs:=#[.int .i64 a0_0,.string a0_1,.string a0_2,.int .i64 a0_3,.string a0_4,.slice A0_5 l0_5.length c0_5,.slice A0_6 l0_6.length c0_6,.int .i64 a0_7]) (t:=67) ?_;intro gb44001 hg w6 hbox hb;have n0_:=zk (below_step za3 hb);have n1_:=zk (hbox);have n2_:=zk (zs (w:=w) hg za3);have n3_:=zk (zs (w:=w) hg za3);clear HB;have HB:=n0_;have BK44001:=n1_;have GW44001:=n2_;have GE44001:=n3_;clear n0_ n1_ n2_ n3_;clear hb hbox hg)|((with_reducible refine gate_dst (N:=3) rfl ?_);refine zE (N:=3) (cs:=#[.string a1_0,.string a1_1,.string a1_2]) (t:=32) ?_;intro gb44002 hg w7 hbox hb;have n0_:=zk (zb BK44001.out hb);have n1_:=zk (below_step za3 hb);have n2_:=zk (hbox);have n3_:=zk (zs (w:=w) hg za3);have n4_:=zk (zs (w:=w) hg za3);have n5_:=zk ((by rw [hg];exact Nat.ne_of_lt (zl BK44001.out):gb44001 ≠ gb44002));have n6_:=zk ((by rw [hg];exact Nat.ne_of_gt (zl BK44001.out):gb44002 ≠ gb44001));clear BK44001;clear HB;have BK44001:=n0_;have HB:=n1_;have BK44002:=n2_;have GW44002:=n3_;have GE44002:=n4_;have NB44001_44002:=n5_;have NB44002_44001:=n6_;clear n0_ n1_ n2_ n3_ n4_ n5_ n6_;clear hb hbox hg;have hnb8:=NB44001_44002.out;have hnc8:=NB44002_44001.out;obtain ⟨hcz9_0,hcz9_1,hcz9_2,hcz9_3,hcz9_4,hcz9_5,hcz9_6,hcz9_7,hfz9_0,hfz9_1,hfz9_2,hfz9_3,hfz9_4,hfz9_5,hfz9_6,hfz9_7⟩:=blk8 BK44001.out;obtain ⟨hcz10_0,hcz10_1,hcz10_2,hfz10_0,hfz10_1,hfz10_2⟩:=blk3 BK44002.out)|(go_at_call 77;(with_reducible refine (impl_ApplyValues.calls a0_1 a1_0 a1_1 a1_2 t44003 _ A3.out).mono ?_);rintro e w43 ⟨rfl,hb⟩;have n0_:=zk (zb BK44001.out hb);have n1_:=zk (zb BK44002.out hb);have n2_:=zk (below_step za3 hb);clear BK44001;clear BK44002;clear HB;have BK44001:=n0_;have BK44002:=n1_;have HB:=n2_;clear n0_ n1_ n2_;(try clear hb);(try clear hb2);(try clear hk);(try clear hi);obtain ⟨hcz44_0,hcz44_1,hcz44_2,hcz44_3,hcz44_4,hcz44_5,hcz44_6,hcz44_7,hfz44_0,hfz44_1,hfz44_2,hfz44_3,hfz44_4,hfz44_5,hfz44_6,hfz44_7⟩:=blk8 BK44001.out)|(go_at_call 78;(with_reducible refine (impl_matches.calls a0_3 a0_4 _ _ l0_5 t44003 t44007 _ ?side1 ?side2 A37.out).mono ?_);(case side1=>repeat (first|exact (Kd.C_below HR0_5.out HB.out)|(with_reducible refine Kd.C_alloc ?_ _)|(with_reducible refine Kd.C_drewN ?_ _)|(with_reducible refine Kd.C_drew ?_)));(case side2=>exact HC0_5.out);rintro e w45 ⟨rfl,hb⟩;have n0_:=zk (zb BK44001.out hb);have n1_:=zk (zb BK44002.out hb);have n2_:=zk (below_step za3 hb);clear BK44001;clear BK44002;clear HB;have BK44001:=n0_;have BK44002:=n1_;have HB:=n2_;clear n0_ n1_ n2_;(try clear hb);(try clear hb2);(try clear hk);(try clear hi))))
  go_ret
  exact ⟨za6,za3⟩
 rw [if_neg c36] at H
 have c36b0:(a0_0 == 4)=false:=beq_eq_false_iff_ne.mpr c36
 have c36b1:(a0_0 != 4)=true:=bne_iff_ne.mpr c36
 by_cases c46:0 < (l0_6.length:Int)
 rw [if_pos c46] at H
 have c46b0:decide (0 < (l0_6.length:Int))=true:=decide_eq_true c46
 have c46b1:decide (0 < l0_6.length)=true:=decide_eq_true (by omega)
 clear c46
 by_cases c47:1 < (l0_6.length:Int)
 rw [if_pos c47] at H
 have c47b0:decide (1 < (l0_6.length:Int))=true:=decide_eq_true c47
 have c47b1:decide (1 < l0_6.length)=true:=decide_eq_true (by omega)
 clear c47
 by_cases c48:2 < (l0_6.length:Int)
 ·rw [if_pos c48] at H
  have c48b0:decide (2 < (l0_6.length:Int))=true:=decide_eq_true c48
  have c48b1:decide (2 < l0_6.length)=true:=decide_eq_true (by omega)
  clear c48
  obtain rfl:=zi H
  go_wp2_with (first|(go_at_call 77;(with_reducible refine (impl_ApplyValues.calls a0_1 a1_0 a1_1 a1_2 t44003 _ A3.out).mono ?_);rintro e w54 ⟨rfl,hb⟩;have n0_:=zk (zb BK44001.out hb);have n1_:=zk (zb BK44002.out hb);have n2_:=zk (below_step za3 hb);clear BK44001;clear BK44002;clear HB;have BK44001:=n0_;have BK44002:=n1_;have HB:=n2_;clear n0_ n1_ n2_;(try clear hb);(try clear hb2);(try clear hk);(try clear hi);obtain ⟨hcz55_0,hcz55_1,hcz55_2,hcz55_3,hcz55_4,hcz55_5,hcz55_6,hcz55_7,hfz55_0,hfz55_1,hfz55_2,hfz55_3,hfz55_4,hfz55_5,hfz55_6,hfz55_7⟩:=blk8 BK44001.out;have p44008:0≤(0:Int):=(by omega);have q44008:0 < (l0_6.length:Int):=of_decide_eq_true za8;obtain ⟨ad44008,e44008,hx44008_0⟩:=Kd.at_int HR0_6.out 0 p44008 q44008;cases e44008;have qi44008:(0 < l0_6.length)=True:=eq_true (by omega);(try rw [show ((0:Int)).toNat=0 from rfl] at hx44008_0);(try rw [Addr.add_zero'] at hx44008_0);replace hx44008_0:=zx HB.out hx44008_0;replace p44008:=eq_true p44008;replace q44008:=eq_true q44008;obtain ⟨hcz56_0,hcz56_1,hcz56_2,hfz56_0,hfz56_1,hfz56_2⟩:=blk3 BK44002.out;have p44009:0≤(1:Int):=(by omega);have q44009:1 < (l0_6.length:Int):=of_decide_eq_true za8;obtain ⟨ad44009,e44009,hx44009_0⟩:=Kd.at_int HR0_6.out 1 p44009 q44009;obtain rfl:ad44008=ad44009:=(by injection e44009);(try simp only [show (1:Int).toNat=1 from rfl,Nat.reduceMul,Nat.reduceEqDiff,Go.Addr.add,↓reduceIte] at hx44009_0);have qi44009:(1 < l0_6.length)=True:=eq_true (by omega);(try rw [show ((1:Int)).toNat=1 from rfl] at hx44009_0);replace hx44009_0:=zx HB.out hx44009_0;replace p44009:=eq_true p44009;replace q44009:=eq_true q44009;have p44010:0≤(2:Int):=(by omega);have q44010:2 < (l0_6.length:Int):=of_decide_eq_true za8;obtain ⟨ad44010,e44010,hx44010_0⟩:=Kd.at_int HR0_6.out 2 p44010 q44010;obtain rfl:ad44008=ad44010:=(by injection e44010);(try simp only [show (2:Int).toNat=2 from rfl,Nat.reduceMul,Nat.reduceEqDiff,Go.Addr.add,↓reduceIte] at hx44010_0);have qi44010:(2 < l0_6.length)=True:=eq_true (by omega);(try rw [show ((2:Int)).toNat=2 from rfl] at hx44010_0);replace hx44010_0:=zx HB.out hx44010_0;replace p44010:=eq_true p44010;replace q44010:=eq_true q44010))
  repeat (go_quiet (first|(go_at_call 77;(with_reducible refine (impl_ApplyValues.calls a0_1 a1_0 a1_1 a1_2 t44003 _ A3.out).mono ?_);rintro e w54 ⟨rfl,hb⟩;have n0_:=zk (zb BK44001.out hb);have n1_:=zk (zb BK44002.out hb);have n2_:=zk (below_step za3 hb);clear BK44001;clear BK44002;clear HB;have BK44001:=n0_;have BK44002:=n1_;have HB:=n2_;clear n0_ n1_ n2_;(try clear hb);(try clear hb2);(try clear hk);(try clear hi);obtain ⟨hcz55_0,hcz55_1,hcz55_2,hcz55_3,hcz55_4,hcz55_5,hcz55_6,hcz55_7,hfz55_0,hfz55_1,hfz55_2,hfz55_3,hfz55_4,hfz55_5,hfz55_6,hfz55_7⟩:=blk8 BK44001.out;have p44008:0≤(0:Int):=(by omega);have q44008:0 < (l0_6.length:Int):=of_decide_eq_true za8;obtain ⟨ad44008,e44008,hx44008_0⟩:=Kd.at_int HR0_6.out 0 p44008 q44008;cases e44008;have qi44008:(0 < l0_6.length)=True:=eq_true (by omega);(try rw [show ((0:Int)).toNat=0 from rfl] at hx44008_0);(try rw [Addr.add_zero'] at hx44008_0);replace hx44008_0:=zx HB.out hx44008_0;replace p44008:=eq_true p44008;replace q44008:=eq_true q44008;obtain ⟨hcz56_0,hcz56_1,hcz56_2,hfz56_0,hfz56_1,hfz56_2⟩:=blk3 BK44002.out;have p44009:0≤(1:Int):=(by omega);have q44009:1 < (l0_6.length:Int):=of_decide_eq_true za8;obtain ⟨ad44009,e44009,hx44009_0⟩:=Kd.at_int HR0_6.out 1 p44009 q44009;obtain rfl:ad44008=ad44009:=(by injection e44009);(try simp only [show (1:Int).toNat=1 from rfl,Nat.reduceMul,Nat.reduceEqDiff,Go.Addr.add,↓reduceIte] at hx44009_0);have qi44009:(1 < l0_6.length)=True:=eq_true (by omega);(try rw [show ((1:Int)).toNat=1 from rfl] at hx44009_0);replace hx44009_0:=zx HB.out hx44009_0;replace p44009:=eq_true p44009;replace q44009:=eq_true q44009;have p44010:0≤(2:Int):=(by omega);have q44010:2 < (l0_6.length:Int):=of_decide_eq_true za8;obtain ⟨ad44010,e44010,hx44010_0⟩:=Kd.at_int HR0_6.out 2 p44010 q44010;obtain rfl:ad44008=ad44010:=(by injection e44010);(try simp only [show (2:Int).toNat=2 from rfl,Nat.reduceMul,Nat.reduceEqDiff,Go.Addr.add,↓reduceIte] at hx44010_0);have qi44010:(2 < l0_6.length)=True:=eq_true (by omega);(try rw [show ((2:Int)).toNat=2 from rfl] at hx44010_0);replace hx44010_0:=zx HB.out hx44010_0;replace p44010:=eq_true p44010;replace q44010:=eq_true q44010));try go_wp2_with (first|((with_reducible refine gate_dst (N:=2) rfl ?_);refine zE (N:=2) (cs:=#[.int .i64 a0_0,.string a0_1,.string a0_2,.int .i64 a0_3,.string a0_4,.slice A0_5 l0_5.length c0_5,.slice A0_6 l0_6.length c0_6,.int .i64 a0_7]) (t:=67) ?_;intro gb44001 hg w6 hbox hb;have n0_:=zk (below_step za3 hb);have n1_:=zk (hbox);have n2_:=zk (zs (w:=w) hg za3);have n3_:=zk (zs (w:=w) hg za3);clear HB;have HB:=n0_;have BK44001:=n1_;have GW44001:=n2_;have GE44001:=n3_;clear n0_ n1_ n2_ n3_;clear hb hbox hg)|((with_reducible refine gate_dst (N:=3) rfl ?_);refine zE (N:=3) (cs:=#[.string a1_0,.string a1_1,.string a1_2]) (t:=32) ?_;intro gb44002 hg w7 hbox hb;have n0_:=zk (zb BK44001.out hb);have n1_:=zk (below_step za3 hb);have n2_:=zk (hbox);have n3_:=zk (zs (w:=w) hg za3);have n4_:=zk (zs (w:=w) hg za3);have n5_:=zk ((by rw [hg];exact Nat.ne_of_lt (zl BK44001.out):gb44001 ≠ gb44002));have n6_:=zk ((by rw [hg];exact Nat.ne_of_gt (zl BK44001.out):gb44002 ≠ gb44001));clear BK44001;clear HB;have BK44001:=n0_;have HB:=n1_;have BK44002:=n2_;have GW44002:=n3_;have GE44002:=n4_;have NB44001_44002:=n5_;have NB44002_44001:=n6_;clear n0_ n1_ n2_ n3_ n4_ n5_ n6_;clear hb hbox hg;have hnb8:=NB44001_44002.out;have hnc8:=NB44002_44001.out;obtain ⟨hcz9_0,hcz9_1,hcz9_2,hcz9_3,hcz9_4,hcz9_5,hcz9_6,hcz9_7,hfz9_0,hfz9_1,hfz9_2,hfz9_3,hfz9_4,hfz9_5,hfz9_6,hfz9_7⟩:=blk8 BK44001.out;obtain ⟨hcz10_0,hcz10_1,hcz10_2,hfz10_0,hfz10_1,hfz10_2⟩:=blk3 BK44002.out)|(go_at_call 77;(with_reducible refine (impl_ApplyValues.calls a0_1 a1_0 a1_1 a1_2 t44003 _ A3.out).mono ?_);rintro e w54 ⟨rfl,hb⟩;have n0_:=zk (zb BK44001.out hb);have n1_:=zk (zb BK44002.out hb);have n2_:=zk (below_step za3 hb);clear BK44001;clear BK44002;clear HB;have BK44001:=n0_;have BK44002:=n1_;have HB:=n2_;clear n0_ n1_ n2_;(try clear hb);(try clear hb2);(try clear hk);(try clear hi);obtain ⟨hcz55_0,hcz55_1,hcz55_2,hcz55_3,hcz55_4,hcz55_5,hcz55_6,hcz55_7,hfz55_0,hfz55_1,hfz55_2,hfz55_3,hfz55_4,hfz55_5,hfz55_6,hfz55_7⟩:=blk8 BK44001.out;have p44008:0≤(0:Int):=(by omega);have q44008:0 < (l0_6.length:Int):=of_decide_eq_true za8;obtain ⟨ad44008,e44008,hx44008_0⟩:=Kd.at_int HR0_6.out 0 p44008 q44008;cases e44008;have qi44008:(0 < l0_6.length)=True:=eq_true (by omega);(try rw [show ((0:Int)).toNat=0 from rfl] at hx44008_0);(try rw [Addr.add_zero'] at hx44008_0);replace hx44008_0:=zx HB.out hx44008_0;replace p44008:=eq_true p44008;replace q44008:=eq_true q44008;obtain ⟨hcz56_0,hcz56_1,hcz56_2,hfz56_0,hfz56_1,hfz56_2⟩:=blk3 BK44002.out;have p44009:0≤(1:Int):=(by omega);have q44009:1 < (l0_6.length:Int):=of_decide_eq_true za8;obtain ⟨ad44009,e44009,hx44009_0⟩:=Kd.at_int HR0_6.out 1 p44009 q44009;obtain rfl:ad44008=ad44009:=(by injection e44009);(try simp only [show (1:Int).toNat=1 from rfl,Nat.reduceMul,Nat.reduceEqDiff,Go.Addr.add,↓reduceIte] at hx44009_0);have qi44009:(1 < l0_6.length)=True:=eq_true (by omega);(try rw [show ((1:Int)).toNat=1 from rfl] at hx44009_0);replace hx44009_0:=zx HB.out hx44009_0;replace p44009:=eq_true p44009;replace q44009:=eq_true q44009;have p44010:0≤(2:Int):=(by omega);have q44010:2 < (l0_6.length:Int):=of_decide_eq_true za8;obtain ⟨ad44010,e44010,hx44010_0⟩:=Kd.at_int HR0_6.out 2 p44010 q44010;obtain rfl:ad44008=ad44010:=(by injection e44010);(try simp only [show (2:Int).toNat=2 from rfl,Nat.reduceMul,Nat.reduceEqDiff,Go.Addr.add,↓reduceIte] at hx44010_0);have qi44010:(2 < l0_6.length)=True:=eq_true (by omega);(try rw [show ((2:Int)).toNat=2 from rfl] at hx44010_0);replace hx44010_0:=zx HB.out hx44010_0;replace p44010:=eq_true p44010;replace q44010:=eq_true q44010)))
  go_ret
  exact ⟨za6,za3⟩
 ·rw [if_neg c48] at H
  exact absurd H (by simp)
 ·rw [if_neg c47] at H
  exact absurd H (by simp)
 ·rw [if_neg c46] at H
  exact absurd H (by simp)
end Go.Proofs.YtffjfdoghofkdaaGreat.A
-- ALSO loop.example/g00582/impl.IsValidConstraint
namespace Go.Proofs.YtffjfdoghofkdaaGreat.Ext
open Go.RowKit YtffjfdoghofkdaaGreatW.PrintWords YtffjfdoghofkdaaGreatW.PrintLast YtffjfdoghofkdaaGreat.A
def ClC (w:World) (l:List S67) (p:Nat→Bool) (g:Nat) (lb:Array Value):Prop :=
 ∀ (i:Nat) (h:i < l.length) (A5:Option Addr) (c5:Nat) (A6:Option Addr) (c6:Nat) (W:World),Below w.heap.size w W→l[i].f3.f2.length≤c5→Kd.C k65 w A5 l[i].f3.f2.length l[i].f3.f2→l[i].f4.length≤c6→(Kd.int .i64).C w A6 l[i].f4.length l[i].f4 →
  Calls Tryz.prog g (#[.agg #[.int .i64 l[i].f0,.string l[i].f1,.string l[i].f2,.int .i64 l[i].f3.f0,.string l[i].f3.f1,.slice A5 l[i].f3.f2.length c5,.slice A6 l[i].f4.length c6,.int .i64 l[i].f5]] ++ lb) W fun e W'=>e = .returned (.bool (p i))∧Below W.heap.size W W'
theorem cs_at {w0 W:World} {A:Option Addr} {l:List S67} (hC:Kd.C k67 w0 A l.length l) (hB:Below w0.heap.size w0 W) (i:Nat) (hi:i < l.length) :
  ∃ ad A5 c5 A6 c6,A=some ad∧W.cell? (ad.add (i * 8))=some (.int .i64 l[i].f0)∧W.cell? ⟨(ad.add (i * 8)).block,(ad.add (i * 8)).off+1,none⟩=some (.string l[i].f1)∧W.cell? ⟨(ad.add (i * 8)).block,(ad.add (i * 8)).off+2,none⟩=some (.string l[i].f2)∧W.cell? ⟨(ad.add (i * 8)).block,(ad.add (i * 8)).off+3,none⟩=some (.int .i64 l[i].f3.f0)∧W.cell? ⟨(ad.add (i * 8)).block,(ad.add (i * 8)).off+4,none⟩=some (.string l[i].f3.f1)∧W.cell? ⟨(ad.add (i * 8)).block,(ad.add (i * 8)).off+5,none⟩=some (.slice A5 l[i].f3.f2.length c5)∧W.cell? ⟨(ad.add (i * 8)).block,(ad.add (i * 8)).off+6,none⟩=some (.slice A6 l[i].f4.length c6)∧W.cell? ⟨(ad.add (i * 8)).block,(ad.add (i * 8)).off+7,none⟩=some (.int .i64 l[i].f5)∧l[i].f3.f2.length≤c5∧Kd.C k65 w0 A5 l[i].f3.f2.length l[i].f3.f2∧l[i].f4.length≤c6∧(Kd.int .i64).C w0 A6 l[i].f4.length l[i].f4:=by
 obtain ⟨ad,A5,c5,A6,c6,e,h0,h1,h2,h3,h4,h5,h6,h7,g1,g2,g3,g4⟩:=at_T67 hC (i:Int) (by omega) (by omega)
 have he:rd_T67 l (i:Int)=l[i]:=by simp [rd_T67,hi]
 rw [he] at h0 h1 h2 h3 h4 h5 h6 h7 g1 g2 g3 g4
 rw [Int.toNat_natCast] at h0 h1 h2 h3 h4 h5 h6 h7
 have up:∀ {a:Addr} {v:Value},w0.cell? a=some v→W.cell? a=some v:=fun h=>(hB.cell (World.block_lt_of_cell? w0 _ h)).trans h
 exact ⟨ad,A5,c5,A6,c6,e,up h0,up h1,up h2,up h3,up h4,up h5,up h6,up h7,g1,g2,g3,g4⟩
set_option maxHeartbeats 2000000 in
theorem idx_cs (p:Nat→Bool) (g:Nat) (lb:Array Value) (eg:∀ args w,(callFunc g args).run Tryz.prog w = .ok (.enter g args) w) (A:Option Addr) (l:List S67) (c:Nat) (w:World) (hn:l.length≤9223372036854775806) (hC:Kd.C k67 w A l.length l) (hcl:ClC w l p g lb) :
  Calls Tryz.prog 76 #[.slice A l.length c,.func (.func g) #[] lb] w fun e w'=>e = .returned (.int .i64 (idxN p l.length))∧Below w.heap.size w w':=by
 have HC:=zk hC
 have HCL:=zk hcl
 have HB0:=zk (Below.refl w.heap.size w)
 clear hC hcl
 go_enter Tryz.func76,Tryz.ntmps76
 go_wp2
 go_loopg [8] l.length (fun gk v wr=>∃ (x:Nat),v = .int .i64 (x:Int)∧Aside0 (x+gk=l.length)∧Aside0 (∀ j:Nat,j < x→p j=false)∧Aside0 (Below w.heap.size w wr))
 case atStart=>exact ⟨0,rfl,⟨by omega⟩,⟨fun j hj=>by omega⟩,⟨by first|exact HB0.out|exact below_drew HB0.out|exact pw_below_drewN HB0.out _⟩⟩
 case round =>
  obtain ⟨x,rfl,HK,HT,HB⟩:=hrel
  by_cases hlt:x < l.length
  ·obtain ⟨ad,A5,c5,A6,c6,hA,e0,e1,e2,e3,e4,e5,e6,e7,g1,g2,g3,g4⟩:=cs_at HC.out HB.out x hlt
   have HCA:=zk (HCL.out x hlt A5 c5 A6 c6 wr HB.out g1 g2 g3 g4)
   have c4b0:decide (x < l.length)=true:=decide_eq_true hlt
   have HLT:=zk hlt
   have q4:=eq_true hlt
   generalize l[x]=lx at *
   subst hA
   clear hlt g1 g2 g3 g4
   cases hp:p x with
   | true =>
    have HP:=zk hp
    rw [hp] at HCA
    clear hp
    go_wp2_with (go_at_fn g;refine HCA.out.mono ?_;rintro e w2 ⟨rfl,hb2⟩;have B2:=zk (below_step HB.out hb2);clear hb2)
    go_ret
    exact ⟨congrArg (fun i=>Ending.returned (Value.int .i64 i)) (idxN_hit p l.length x HLT.out HT.out HP.out).symm,B2.out⟩
   | false =>
    have HP:=zk hp
    rw [hp] at HCA
    clear hp
    cases gk with
    | zero=>exact absurd HK.out (by have:=HLT.out;omega)
    | succ k1 =>
     go_wp2_with (go_at_fn g;refine HCA.out.mono ?_;rintro e w2 ⟨rfl,hb2⟩;have B2:=zk (below_step HB.out hb2);clear hb2)
     have hw:wrap64 ((x:Int)+1)=((x+1:Nat):Int):=by have:=HLT.out;unfold wrap64;omega
     go_roundg k1
     case measure=>omega
     case rel =>
      refine ⟨x+1,by first|rfl|exact congrArg (Value.int IntKind.i64) hw|(simp [*];done),⟨by have:=HK.out;omega⟩,⟨fun j hj=>?_⟩,B2⟩
      by_cases e:j < x
      ·exact HT.out j e
      ·obtain rfl:j=x:=by omega
       exact HP.out
  ·have c4b0:decide (x < l.length)=false:=decide_eq_false hlt
   have hx:x=l.length:=by have:=HK.out;omega
   have HE:=zk (idxN_miss p l.length (fun j hj=>HT.out j (by omega)))
   clear hlt hx
   go_wp2
   go_ret
   exact ⟨congrArg (fun i=>Ending.returned (Value.int .i64 i)) HE.out.symm,HB.out⟩
set_option maxHeartbeats 1000000 in
theorem any_cs (p:Nat→Bool) (g:Nat) (lb:Array Value) (eg:∀ args w,(callFunc g args).run Tryz.prog w = .ok (.enter g args) w) (A:Option Addr) (l:List S67) (c:Nat) (w:World) (hn:l.length≤9223372036854775806) (hC:Kd.C k67 w A l.length l) (hcl:ClC w l p g lb) :
  Calls Tryz.prog 42 #[.slice A l.length c,.func (.func g) #[] lb] w fun e w'=>e = .returned (.bool (anyN p l.length))∧Below w.heap.size w w':=by
 have HI:=zk (idx_cs p g lb eg A l c w hn hC hcl)
 have HR:=zk (anyN_idx p l.length)
 clear hC hcl
 go_enter Tryz.func42,Tryz.ntmps42
 go_wp2_with (go_at_call 76;refine HI.out.mono ?_;generalize idxN p l.length=m at HR;rintro e w' ⟨rfl,hb⟩)
 go_ret
 exact ⟨congrArg (fun b=>Ending.returned (Value.bool b)) HR.out,hb⟩
def anyO (f:S67→Option Bool) (l:List S67):Option Bool:=if (l.all fun c=>(f c).isSome)=true then some (l.any fun c=>f c == some true) else none
theorem anyO_at {f:S67→Option Bool} {l:List S67} {r:Bool} (h:anyO f l=some r):anyN (fun i=>(l[i]?.map fun c=>f c == some true).getD false) l.length=r∧∀ (i:Nat) (hi:i < l.length),f l[i]=some ((l[i]?.map fun c=>f c == some true).getD false):=by
 unfold anyO at h
 split at h
 ·next ha =>
  rw [List.all_eq_true] at ha
  refine ⟨?_,fun i hi=>?_⟩
  ·rw [← zi h]
   unfold anyN
   rw [Bool.eq_iff_iff,List.any_eq_true,List.any_eq_true]
   constructor
   ·rintro ⟨i,hi,e⟩
    rw [List.mem_range] at hi
    rw [List.getElem?_eq_getElem hi] at e
    exact ⟨l[i],List.getElem_mem hi,e⟩
   ·rintro ⟨x,hx,e⟩
    obtain ⟨i,hi,rfl⟩:=List.getElem_of_mem hx
    exact ⟨i,List.mem_range.2 hi,by rw [List.getElem?_eq_getElem hi];exact e⟩
  ·have:=ha l[i] (List.getElem_mem hi)
   rw [List.getElem?_eq_getElem hi]
   cases hf:f l[i] with
   | none=>rw [hf] at this;cases this
   | some b=>simp only [Option.map_some,Option.getD_some,hf];cases b <;> rfl
 ·cases h
theorem anyO_mono {f g:S67→Option Bool} (hfg:∀ c,LeO (f c) (g c)) (l:List S67):LeO (anyO f l) (anyO g l):=by
 intro r h
 unfold anyO at h ⊢
 split at h
 ·next ha =>
  have e:∀ c ∈ l,g c=f c:=fun c hc=>by
   have:=(List.all_eq_true.1 ha) c hc
   cases hf:f c with
   | none=>rw [hf] at this;cases this
   | some b=>exact hfg c b hf
  have e1:(l.all fun c=>(g c).isSome)=true:=List.all_eq_true.2 fun c hc=>by rw [e c hc];exact List.all_eq_true.1 ha c hc
  rw [if_pos e1,← zi h]
  congr 1
  rw [Bool.eq_iff_iff,List.any_eq_true,List.any_eq_true]
  exact ⟨fun ⟨c,hc,h⟩=>⟨c,hc,by rw [← e c hc];exact h⟩,fun ⟨c,hc,h⟩=>⟨c,hc,by rw [e c hc];exact h⟩⟩
 ·cases h
def notValid (k:Nat) (c:S67):Option Bool:=(impl_IsValidConstraint.f k c.f0 c.f1 c.f2 c.f3.f0 c.f3.f1 c.f3.f2 c.f4 c.f5).bind fun t=>some (!t)
set_option maxHeartbeats 1000000 in
theorem clo_valid (k:Nat) (x:S67) (r:Bool) (h:notValid k x=some r) (A5:Option Addr) (c5:Nat) (A6:Option Addr) (c6:Nat) (W:World) (g1:x.f3.f2.length≤c5) (g2:Kd.C k65 W A5 x.f3.f2.length x.f3.f2) (g3:x.f4.length≤c6) (g4:(Kd.int .i64).C W A6 x.f4.length x.f4) :
  Calls Tryz.prog 64 #[.agg #[.int .i64 x.f0,.string x.f1,.string x.f2,.int .i64 x.f3.f0,.string x.f3.f1,.slice A5 x.f3.f2.length c5,.slice A6 x.f4.length c6,.int .i64 x.f5]] W fun e W'=>e = .returned (.bool r)∧Below W.heap.size W W':=by
 obtain ⟨t,ht,hr⟩:=zo h
 obtain rfl:=zi hr
 have HV:=zk (fun (W':World) (hB:Below W.heap.size W W')=>impl_IsValidConstraint.calls k x.f0 x.f1 x.f2 x.f3.f0 x.f3.f1 A5 c5 x.f3.f2 A6 c6 x.f4 x.f5 t W' (Kd.C_below g2 hB) g1 (Kd.C_below g4 hB) g3 ht)
 have HB:=zk (Below.refl W.heap.size W)
 obtain ⟨f0,f1,f2,⟨d,e,l⟩,f4,f5⟩:=x
 simp only at HV ⊢
 clear g1 g2 g3 g4 h ht hr
 go_enter Tryz.func64,Tryz.ntmps64
 go_wp2_with (first
  | ((with_reducible refine gate_dst (N:=1) rfl ?_);refine zE (N:=1) (cs:=#[.int .i64 f0,.string f1,.string f2,.int .i64 d,.string e,.slice A5 l.length c5,.slice A6 f4.length c6,.int .i64 f5]) (t:=67) ?_;intro gr hgr w3 hbox hb3;have X3:=zk hbox;have B3:=zk (below_step HB.out hb3);obtain ⟨y0,y1,y2,y3,y4,y5,y6,y7,q0,q1,q2,q3,q4,q5,q6,q7⟩:=blk8 hbox;clear hb3 hbox hgr)
  | (go_at_call 65;(with_reducible refine (HV.out _ (by first|exact B3.out|exact pw_below_drewN B3.out _|exact below_drew B3.out|exact HB.out)).mono ?_);rintro e w2 ⟨rfl,hb2⟩;have B2:=zk (show Below W.heap.size W w2 by first|exact below_step B3.out hb2|exact below_step HB.out hb2);clear hb2))
 go_ret
 exact ⟨za42,by first|exact B2.out|exact B3.out⟩
-- EXT loop.example/g00582/impl.IsValidProblem rounds making
def impl_IsValidProblem.f (k:Nat) (l0_0:List S67):Option Bool:=if l0_0.length≤6 then (anyO (notValid k) l0_0).bind fun t=>some (!t) else some false
theorem impl_IsValidProblem.mono (a0:List S67) (k:Nat):LeO (impl_IsValidProblem.f k a0) (impl_IsValidProblem.f (k+1) a0):=by
 unfold impl_IsValidProblem.f
 refine LeO.ite (LeO.bind (anyO_mono (fun c=>?_) a0) fun _=>LeO.refl _) (LeO.refl _)
 exact LeO.bind (impl_IsValidConstraint.mono _ _ _ _ _ _ _ _ _) fun _=>LeO.refl _
set_option maxHeartbeats 1000000 in
theorem impl_IsValidProblem.calls (k:Nat) (A0_0:Option Addr) (c0_0:Nat) (l0_0:List S67) (r:Bool) (w:World) (hr0_0:Kd.C k67 w A0_0 l0_0.length l0_0) (hc0_0:l0_0.length≤c0_0) (h:impl_IsValidProblem.f k l0_0=some r) :
  Calls Tryz.prog 30 #[.agg #[.slice A0_0 l0_0.length c0_0]] w fun e w'=>e = .returned (.bool r)∧Below w.heap.size w w':=by
 have HB:=zk (Below.refl w.heap.size w)
 have HR:=zk hr0_0
 have HH:=zk h
 generalize hn:l0_0.length=n at *
 have HN:=zk hn
 clear hr0_0 hc0_0 h hn
 go_enter Tryz.func30,Tryz.ntmps30
 go_upto_region 1 with (first
  | ((with_reducible refine gate_dst (N:=1) rfl ?_);refine zE (N:=1) (cs:=#[.slice A0_0 n c0_0]) (t:=26) ?_;intro gr hgr w3 hbox hb3;have X3:=zk hbox;have B3:=zk (below_step HB.out hb3);clear hb3 hbox hgr))
 obtain ⟨y0,g0⟩:=blk1 X3.out
 by_cases h6:n≤6
 ·have hd6:decide (n≤6)=true:=decide_eq_true h6
  have hd7:decide ((n:Int)≤6)=true:=decide_eq_true (by omega)
  have hf:=HH.out
  unfold impl_IsValidProblem.f at hf
  rw [HN.out,if_pos h6] at hf
  obtain ⟨t,ht,hr⟩:=zo hf
  obtain rfl:=zi hr
  obtain ⟨a1,a2⟩:=anyO_at ht
  rw [HN.out] at a1
  have CC:=any_cs _ 64 #[] (enters_of Tryz.func64 (by kernel_rfl) rfl) A0_0 l0_0 c0_0 w3 (by rw [HN.out];omega) (Kd.C_below (by rw [HN.out];exact HR.out) B3.out) (fun i hi A5 c5 A6 c6 W hB g1 g2 g3 g4=>clo_valid k l0_0[i] _ (a2 i hi) A5 c5 A6 c6 W g1 (Kd.C_below g2 hB) g3 (Kd.C_below g4 hB))
  rw [HN.out,a1] at CC
  have HCC:=zk CC
  clear CC a1 a2 ht hr hf h6
  go_wp2_with (go_at_call 42;(with_reducible refine HCC.out.mono ?_);rintro e w2 ⟨rfl,hb2⟩;have B2:=zk (below_step B3.out hb2);clear hb2)
  go_ret
  exact ⟨za42,B2.out⟩
 ·have hd6:decide (n≤6)=false:=decide_eq_false h6
  have hd7:decide ((n:Int)≤6)=false:=decide_eq_false (by omega)
  have hf:=HH.out
  unfold impl_IsValidProblem.f at hf
  rw [HN.out,if_neg h6] at hf
  obtain rfl:=zi hf
  clear h6 hf
  go_wp2
  go_ret
  exact ⟨za42,B3.out⟩
end Go.Proofs.YtffjfdoghofkdaaGreat.Ext
namespace Go.Proofs.YtffjfdoghofkdaaGreat.A
open Go.RowKit YtffjfdoghofkdaaGreat.Ext YtffjfdoghofkdaaGreatW.PrintWords YtffjfdoghofkdaaGreatW.PrintLast YtffjfdoghofkdaaGreatW.PrintMore
attribute [local go_sem] max2_int min2_int max_two min_two max_three min_three max_four min_four
def impl_VarsOfProblem.l0:Nat→ByteArray→List (S67)→Int→Int→Option (ByteArray)
 | 0,_,_,_,_=>none
 | k+1,x3,x10,x11,x12=>if x12 < x11 then (if 0≤x12 then (if x12 < (x10.length:Int) then ((impl_VarsOfConstraint.f k ((rd_T67 x10 x12).f0) ((rd_T67 x10 x12).f1) ((rd_T67 x10 x12).f2) ((rd_T67 x10 x12).f3.f0) ((rd_T67 x10 x12).f3.f1) ((rd_T67 x10 x12).f3.f2) ((rd_T67 x10 x12).f4) ((rd_T67 x10 x12).f5)).bind fun t31005=>(if x3.size+t31005.size≤9223372036854775807 then (impl_VarsOfProblem.l0 k (x3 ++ t31005) x10 x11 (wrap64 (x12+1))) else (none))) else (none)) else (none)) else ((impl_VarsOf.f k x3).bind fun t31006=>(some t31006))
def impl_VarsOfProblem.f (k:Nat) (l0_0:List (S67)):Option (ByteArray):=(impl_IsValidProblem.f k l0_0).bind fun t31002=>(if t31002=true then (impl_VarsOfProblem.l0 k (⟨#[]⟩:ByteArray) l0_0 (l0_0.length:Int) 0) else (some (⟨#[]⟩:ByteArray)))
theorem impl_VarsOfProblem.mono_l:∀ k,(∀ y0 y1 y2 y3,LeO (impl_VarsOfProblem.l0 k y0 y1 y2 y3) (impl_VarsOfProblem.l0 (k+1) y0 y1 y2 y3))
 | 0=>fun _ _ _ _ r h=>by simp [impl_VarsOfProblem.l0] at h
 | k+1=>by
  have ih0:=impl_VarsOfProblem.mono_l k
  ·intro y0 y1 y2 y3
   unfold impl_VarsOfProblem.l0
   repeat' first
   | with_reducible first|exact ih0 _ _ _ _|exact impl_IsValidProblem.mono _ _|exact impl_VarsOf.mono _ _|exact impl_VarsOfConstraint.mono _ _ _ _ _ _ _ _ _|exact LeO.refl _|exact LeO.none _|refine LeO.ite ?_ ?_|refine LeO.bind ?_ (fun _=>?_)
theorem impl_VarsOfProblem.mono:∀ a0 k,LeO (impl_VarsOfProblem.f k a0) (impl_VarsOfProblem.f (k+1) a0):=by
 intro a0 k
 have ih0:=impl_VarsOfProblem.mono_l k
 unfold impl_VarsOfProblem.f
 repeat' first
  | with_reducible first|exact ih0 _ _ _ _|exact impl_IsValidProblem.mono _ _|exact impl_VarsOf.mono _ _|exact impl_VarsOfConstraint.mono _ _ _ _ _ _ _ _ _|exact LeO.refl _|exact LeO.none _|refine LeO.ite ?_ ?_|refine LeO.bind ?_ (fun _=>?_)
theorem impl_VarsOfProblem.calls (k:Nat) (A0_0:Option Addr) (c0_0:Nat) (l0_0:List (S67)) (r:ByteArray) (w:World) (hr0_0:Kd.C k67 w A0_0 l0_0.length l0_0) (hc0_0:l0_0.length≤c0_0) (h:impl_VarsOfProblem.f k l0_0=some r) :
  Calls Tryz.prog 31 #[.agg #[.slice A0_0 l0_0.length c0_0]] w fun e w'=>e = .returned (.string r)∧Below w.heap.size w w':=by
 have hu26:=Tryz.underlying26
 have hu67:=Tryz.underlying67
 have HR0_0:=zk hr0_0
 have HC0_0:=zk hc0_0
 clear hr0_0 hc0_0
 have HB:=zk (Below.refl w.heap.size w)
 have H:((impl_IsValidProblem.f k l0_0).bind fun t31002=>(if t31002=true then (impl_VarsOfProblem.l0 k (⟨#[]⟩:ByteArray) l0_0 (l0_0.length:Int) 0) else (some (⟨#[]⟩:ByteArray))))=some r:=h
 clear h
 go_enter Tryz.func31,Tryz.ntmps31
 go_upto_region 1 with (first|((with_reducible refine gate_dst (N:=1) rfl ?_);refine zE (N:=1) (cs:=#[.slice A0_0 l0_0.length c0_0]) (t:=26) ?_;intro gb31001 hg w4 hbox hb;have n0_:=zk (below_step za3 hb);have n1_:=zk (hbox);have n2_:=zk (zs (w:=w) hg za3);have n3_:=zk (zs (w:=w) hg za3);clear HB;have HB:=n0_;have BK31001:=n1_;have GW31001:=n2_;have GE31001:=n3_;clear n0_ n1_ n2_ n3_;clear hb hbox hg;obtain ⟨hcz5_0,hfz5_0⟩:=blk1 BK31001.out))
 replace H:=zo H
 obtain ⟨t31002,A20,H⟩:=H
 replace H:(if t31002=true then (impl_VarsOfProblem.l0 k (⟨#[]⟩:ByteArray) l0_0 (l0_0.length:Int) 0) else (some (⟨#[]⟩:ByteArray)))=some r:=H
 have A2:=zk A20
 clear A20
 by_cases c3:t31002=true
 ·subst c3
  have H1:(impl_VarsOfProblem.l0 k (⟨#[]⟩:ByteArray) l0_0 (l0_0.length:Int) 0)=some r:=by rw [if_pos rfl] at H;exact H
  clear H
  have H:=H1
  clear H1
  have H':=zk H
  clear H
  go_wp2_with (first|((with_reducible refine gate_callee (f:=30) rfl ?_);refine goesL_ (some 7) rfl rfl Tryz.func30 (by kernel_rfl) rfl #[.agg #[.slice A0_0 l0_0.length c0_0]] rfl za4 ?_;(with_reducible refine (impl_IsValidProblem.calls k _ _ l0_0 _ _ ?side1 ?side2 A2.out).mono ?_);(case side1=>repeat (first|exact (Kd.C_below HR0_0.out HB.out)|(with_reducible refine Kd.C_alloc ?_ _)|(with_reducible refine Kd.C_drewN ?_ _)|(with_reducible refine Kd.C_drew ?_)));(case side2=>exact HC0_0.out);rintro e w6 ⟨rfl,hb⟩;refine ⟨_,rfl,?_⟩;have n0_:=zk (zb BK31001.out hb);have n1_:=zk (below_step za3 hb);clear BK31001;clear HB;have BK31001:=n0_;have HB:=n1_;clear n0_ n1_;(try clear hb);(try clear hb2);(try clear hk);(try clear hi);obtain ⟨hcz7_0,hfz7_0⟩:=blk1 BK31001.out))
  first|go_loopg [3,12] k (fun kq v3 v12 w'=>∃ (x3_1:ByteArray) (x12_1:Int),v3 = .string x3_1∧v12 = .int .i64 x12_1∧Aside0 (impl_VarsOfProblem.l0 kq x3_1 l0_0 (l0_0.length:Int) x12_1=some r)∧Aside0 (kq≤k)∧Aside0 (w'.heap[gb31001]? = some (.cells #[(.slice A0_0 l0_0.length c0_0)] 26 (0,0)))∧Aside0 (Below w.heap.size w w'))|(simp only [Act.put,zt,zv,zu];go_loopg [3,12] k (fun kq v3 v12 w'=>∃ (x3_1:ByteArray) (x12_1:Int),v3 = .string x3_1∧v12 = .int .i64 x12_1∧Aside0 (impl_VarsOfProblem.l0 kq x3_1 l0_0 (l0_0.length:Int) x12_1=some r)∧Aside0 (kq≤k)∧Aside0 (w'.heap[gb31001]? = some (.cells #[(.slice A0_0 l0_0.length c0_0)] 26 (0,0)))∧Aside0 (Below w.heap.size w w')))
  case atStart=>exact ⟨((⟨#[]⟩:ByteArray)),(0),za7,za7,H',⟨Nat.le_refl _⟩,⟨za1 BK31001.out⟩,⟨za3⟩⟩
  case round =>
   clear H'
   try clear c3
   try clear hcz5_0
   try clear hcz7_0
   try clear hfz5_0
   try clear hfz7_0
   obtain ⟨x3_1,x12_1,rfl,rfl,HA,HK1,BK31001,HB⟩:=hrel
   cases gk with
   | zero=>exact absurd HA.out (by simp [impl_VarsOfProblem.l0])
   | succ k1 =>
    have H:=HA.out
    clear HA
    simp only [impl_VarsOfProblem.l0] at H
    by_cases c8:x12_1 < (l0_0.length:Int)
    rw [if_pos c8] at H
    have c8b0:decide (x12_1 < (l0_0.length:Int))=true:=decide_eq_true c8
    clear c8
    by_cases c9:0≤x12_1
    rw [if_pos c9] at H
    have c9b0:decide (0≤x12_1)=true:=decide_eq_true c9
    clear c9
    by_cases c10:x12_1 < (l0_0.length:Int)
    rw [if_pos c10] at H
    have c10b0:decide (x12_1 < (l0_0.length:Int))=true:=decide_eq_true c10
    clear c10
    replace H:=zo H
    obtain ⟨t31005,A110,H⟩:=H
    replace H:(if x3_1.size+t31005.size≤9223372036854775807 then (impl_VarsOfProblem.l0 k1 (x3_1 ++ t31005) l0_0 (l0_0.length:Int) (wrap64 (x12_1+1))) else (none))=some r:=H
    have A11:=zk A110
    clear A110
    by_cases c12:x3_1.size+t31005.size≤9223372036854775807
    rw [if_pos c12] at H
    have c12z:=c12
    try simp at c12z
    try replace c12z:=eq_false (Nat.not_lt.2 c12z)
    have c12b0:=eq_true c12
    have c12b1:decide (x3_1.size+t31005.size≤9223372036854775807)=true:=decide_eq_true c12
    try have c12b2:(9223372036854775807 < x3_1.size+t31005.size)=False:=eq_false (Nat.not_lt.2 c12)
    have H':=zk H
    clear H
    have p31003:0≤(x12_1:Int):=of_decide_eq_true za8
    have q31003:x12_1 < (l0_0.length:Int):=of_decide_eq_true za8
    obtain ⟨ad31003,A31003_5,c31003_5,A31003_6,c31003_6,e31003,hx31003_0,hx31003_1,hx31003_2,hx31003_3,hx31003_4,hx31003_5,hx31003_6,hx31003_7,hl31003_5,hi31003_5,hl31003_6,hi31003_6⟩:=at_T67 HR0_0.out x12_1 p31003 q31003
    cases e31003
    replace hx31003_0:=zx HB.out hx31003_0
    replace hx31003_1:=zx HB.out hx31003_1
    replace hx31003_2:=zx HB.out hx31003_2
    replace hx31003_3:=zx HB.out hx31003_3
    replace hx31003_4:=zx HB.out hx31003_4
    replace hx31003_5:=zx HB.out hx31003_5
    replace hx31003_6:=zx HB.out hx31003_6
    replace hx31003_7:=zx HB.out hx31003_7
    have HR31003_5:=zk hi31003_5
    have HC31003_5:=zk hl31003_5
    clear hi31003_5 hl31003_5
    have HR31003_6:=zk hi31003_6
    have HC31003_6:=zk hl31003_6
    clear hi31003_6 hl31003_6
    replace p31003:=eq_true p31003
    replace q31003:=eq_true q31003
    have fin0_:=zk trivial
    rotate_left
    · rw [if_neg c12] at H
      exact absurd H (by simp)
    · rw [if_neg c10] at H
      exact absurd H (by simp)
    · rw [if_neg c9] at H
      exact absurd H (by simp)
    rw [if_neg c8] at H
    have c8b0:decide (x12_1 < (l0_0.length:Int))=false:=decide_eq_false c8
    clear c8
    replace H:=zo H
    obtain ⟨t31006,A170,H⟩:=H
    replace H:(some t31006)=some r:=H
    have A17:=zk A170
    clear A170
    obtain rfl:=zi H
    have fin1_:=zk trivial
    rotate_left
    all_goals
     go_wp2_with (first|((with_reducible refine gate_dst (N:=5) rfl ?_);refine zE (N:=5) (cs:=#[.int .i64 0,.string (⟨#[]⟩:ByteArray),.string (⟨#[]⟩:ByteArray),.int .i64 0,.string (⟨#[]⟩:ByteArray),.slice none 0 0,.slice none 0 0,.int .i64 0]) (t:=67) ?_;intro gb31004 hg w13 hbox hb;have n0_:=zk (zb BK31001.out hb);have n1_:=zk (below_step za3 hb);have n2_:=zk (hbox);have n3_:=zk (zs (w:=w) hg za3);have n4_:=zk (zs (w:=w) hg za3);have n5_:=zk ((by rw [hg];exact Nat.ne_of_lt (zl BK31001.out):gb31001 ≠ gb31004));have n6_:=zk ((by rw [hg];exact Nat.ne_of_gt (zl BK31001.out):gb31004 ≠ gb31001));clear BK31001;clear HB;have BK31001:=n0_;have HB:=n1_;have BK31004:=n2_;have GW31004:=n3_;have GE31004:=n4_;have NB31001_31004:=n5_;have NB31004_31001:=n6_;clear n0_ n1_ n2_ n3_ n4_ n5_ n6_;clear hb hbox hg;have hnb14:=NB31004_31001.out;have hnc14:=NB31001_31004.out;obtain ⟨hcz15_0,hcz15_1,hcz15_2,hcz15_3,hcz15_4,hcz15_5,hcz15_6,hcz15_7,hfz15_0,hfz15_1,hfz15_2,hfz15_3,hfz15_4,hfz15_5,hfz15_6,hfz15_7⟩:=blk8 BK31004.out)|((with_reducible refine gate_callee (f:=66) rfl ?_);refine goesL_ (some 18) rfl rfl Tryz.func66 (by kernel_rfl) rfl #[.agg #[.int .i64 ((rd_T67 l0_0 x12_1).f0),.string ((rd_T67 l0_0 x12_1).f1),.string ((rd_T67 l0_0 x12_1).f2),.int .i64 ((rd_T67 l0_0 x12_1).f3.f0),.string ((rd_T67 l0_0 x12_1).f3.f1),.slice A31003_5 ((rd_T67 l0_0 x12_1).f3.f2).length c31003_5,.slice A31003_6 ((rd_T67 l0_0 x12_1).f4).length c31003_6,.int .i64 ((rd_T67 l0_0 x12_1).f5)]] rfl za4 ?_;(with_reducible refine (impl_VarsOfConstraint.calls k1 ((rd_T67 l0_0 x12_1).f0) ((rd_T67 l0_0 x12_1).f1) ((rd_T67 l0_0 x12_1).f2) ((rd_T67 l0_0 x12_1).f3.f0) ((rd_T67 l0_0 x12_1).f3.f1) _ _ ((rd_T67 l0_0 x12_1).f3.f2) _ _ ((rd_T67 l0_0 x12_1).f4) ((rd_T67 l0_0 x12_1).f5) t31005 _ ?side1 ?side2 ?side3 ?side4 A11.out).mono ?_);(case side1=>exact Kd.C_below HR31003_5.out za3);(case side2=>exact HC31003_5.out);(case side3=>exact Kd.C_below HR31003_6.out za3);(case side4=>exact HC31003_6.out);rintro e w16 ⟨rfl,hb⟩;refine ⟨_,rfl,?_⟩;have n0_:=zk (blk_below (g:=gb31001) (o:=.cells #[.slice (some ad31003) l0_0.length c0_0] 26 (0,0)) (by (with_reducible repeat (first|refine blk_drewN ?_ _|refine blk_drew ?_|refine blk_alloc ?_ _));refine blk_far ?_ NB31001_31004.out _;(with_reducible repeat (first|refine blk_drewN ?_ _|refine blk_drew ?_|refine blk_alloc ?_ _));refine blk_far ?_ NB31001_31004.out _;(with_reducible repeat (first|refine blk_drewN ?_ _|refine blk_drew ?_|refine blk_alloc ?_ _));refine blk_far ?_ NB31001_31004.out _;(with_reducible repeat (first|refine blk_drewN ?_ _|refine blk_drew ?_|refine blk_alloc ?_ _));refine blk_far ?_ NB31001_31004.out _;(with_reducible repeat (first|refine blk_drewN ?_ _|refine blk_drew ?_|refine blk_alloc ?_ _));refine blk_far ?_ NB31001_31004.out _;(with_reducible repeat (first|refine blk_drewN ?_ _|refine blk_drew ?_|refine blk_alloc ?_ _));refine blk_far ?_ NB31001_31004.out _;(with_reducible repeat (first|refine blk_drewN ?_ _|refine blk_drew ?_|refine blk_alloc ?_ _));refine blk_far ?_ NB31001_31004.out _;(with_reducible repeat (first|refine blk_drewN ?_ _|refine blk_drew ?_|refine blk_alloc ?_ _));refine blk_far ?_ NB31001_31004.out _;(with_reducible repeat (first|refine blk_drewN ?_ _|refine blk_drew ?_|refine blk_alloc ?_ _));exact BK31001.out) hb);have n1_:=zk (blk_below (g:=gb31004) (o:=.cells #[.int .i64 ((rd_T67 l0_0 x12_1).f0),.string ((rd_T67 l0_0 x12_1).f1),.string ((rd_T67 l0_0 x12_1).f2),.int .i64 ((rd_T67 l0_0 x12_1).f3.f0),.string ((rd_T67 l0_0 x12_1).f3.f1),.slice A31003_5 ((rd_T67 l0_0 x12_1).f3.f2).length c31003_5,.slice A31003_6 ((rd_T67 l0_0 x12_1).f4).length c31003_6,.int .i64 ((rd_T67 l0_0 x12_1).f5)] 67 (0,0)) (by (with_reducible repeat (first|refine blk_drewN ?_ _|refine blk_drew ?_|refine blk_alloc ?_ _));refine blk_put (cs:=#[.int .i64 ((rd_T67 l0_0 x12_1).f0),.string ((rd_T67 l0_0 x12_1).f1),.string ((rd_T67 l0_0 x12_1).f2),.int .i64 ((rd_T67 l0_0 x12_1).f3.f0),.string ((rd_T67 l0_0 x12_1).f3.f1),.slice A31003_5 ((rd_T67 l0_0 x12_1).f3.f2).length c31003_5,.slice A31003_6 ((rd_T67 l0_0 x12_1).f4).length c31003_6,.int .i64 0]) ?_ 7 _ rfl;(with_reducible repeat (first|refine blk_drewN ?_ _|refine blk_drew ?_|refine blk_alloc ?_ _));refine blk_put (cs:=#[.int .i64 ((rd_T67 l0_0 x12_1).f0),.string ((rd_T67 l0_0 x12_1).f1),.string ((rd_T67 l0_0 x12_1).f2),.int .i64 ((rd_T67 l0_0 x12_1).f3.f0),.string ((rd_T67 l0_0 x12_1).f3.f1),.slice A31003_5 ((rd_T67 l0_0 x12_1).f3.f2).length c31003_5,.slice none 0 0,.int .i64 0]) ?_ 6 _ rfl;(with_reducible repeat (first|refine blk_drewN ?_ _|refine blk_drew ?_|refine blk_alloc ?_ _));refine blk_put (cs:=#[.int .i64 ((rd_T67 l0_0 x12_1).f0),.string ((rd_T67 l0_0 x12_1).f1),.string ((rd_T67 l0_0 x12_1).f2),.int .i64 ((rd_T67 l0_0 x12_1).f3.f0),.string ((rd_T67 l0_0 x12_1).f3.f1),.slice none 0 0,.slice none 0 0,.int .i64 0]) ?_ 5 _ rfl;(with_reducible repeat (first|refine blk_drewN ?_ _|refine blk_drew ?_|refine blk_alloc ?_ _));refine blk_put (cs:=#[.int .i64 ((rd_T67 l0_0 x12_1).f0),.string ((rd_T67 l0_0 x12_1).f1),.string ((rd_T67 l0_0 x12_1).f2),.int .i64 ((rd_T67 l0_0 x12_1).f3.f0),.string (⟨#[]⟩:ByteArray),.slice none 0 0,.slice none 0 0,.int .i64 0]) ?_ 4 _ rfl;(with_reducible repeat (first|refine blk_drewN ?_ _|refine blk_drew ?_|refine blk_alloc ?_ _));refine blk_put (cs:=#[.int .i64 ((rd_T67 l0_0 x12_1).f0),.string ((rd_T67 l0_0 x12_1).f1),.string ((rd_T67 l0_0 x12_1).f2),.int .i64 0,.string (⟨#[]⟩:ByteArray),.slice none 0 0,.slice none 0 0,.int .i64 0]) ?_ 3 _ rfl;(with_reducible repeat (first|refine blk_drewN ?_ _|refine blk_drew ?_|refine blk_alloc ?_ _));refine blk_put (cs:=#[.int .i64 ((rd_T67 l0_0 x12_1).f0),.string ((rd_T67 l0_0 x12_1).f1),.string (⟨#[]⟩:ByteArray),.int .i64 0,.string (⟨#[]⟩:ByteArray),.slice none 0 0,.slice none 0 0,.int .i64 0]) ?_ 2 _ rfl;(with_reducible repeat (first|refine blk_drewN ?_ _|refine blk_drew ?_|refine blk_alloc ?_ _));refine blk_put (cs:=#[.int .i64 ((rd_T67 l0_0 x12_1).f0),.string (⟨#[]⟩:ByteArray),.string (⟨#[]⟩:ByteArray),.int .i64 0,.string (⟨#[]⟩:ByteArray),.slice none 0 0,.slice none 0 0,.int .i64 0]) ?_ 1 _ rfl;(with_reducible repeat (first|refine blk_drewN ?_ _|refine blk_drew ?_|refine blk_alloc ?_ _));refine blk_put (cs:=#[.int .i64 0,.string (⟨#[]⟩:ByteArray),.string (⟨#[]⟩:ByteArray),.int .i64 0,.string (⟨#[]⟩:ByteArray),.slice none 0 0,.slice none 0 0,.int .i64 0]) ?_ 0 _ rfl;(with_reducible repeat (first|refine blk_drewN ?_ _|refine blk_drew ?_|refine blk_alloc ?_ _));exact BK31004.out) hb);have n2_:=zk (below_step za3 hb);clear BK31001;clear BK31004;clear HB;have BK31001:=n0_;have BK31004:=n1_;have HB:=n2_;clear n0_ n1_ n2_;(try clear hb);(try clear hb2);(try clear hk);(try clear hi))|((with_reducible refine gate_callee (f:=67) rfl ?_);refine goesL_ (some 22) rfl rfl Tryz.func67 (by kernel_rfl) rfl #[.string x3_1] rfl za4 ?_;(with_reducible refine (impl_VarsOf.calls k1 x3_1 t31006 _ A17.out).mono ?_);rintro e w' ⟨rfl,⟨nd,rfl⟩⟩;refine ⟨_,rfl,?_⟩))
     first
     | (
       clear fin0_
       go_roundg k1
       case measure=>have:=HK1.out;omega
       case rel=>exact ⟨(x3_1 ++ t31005),(wrap64 (x12_1+1)),za7,za7,H',⟨za15⟩,⟨za1 BK31001.out⟩,⟨za3⟩⟩)
     | (
       clear fin1_
       go_ret
       exact ⟨za6,za3⟩)
 ·replace c3:=Bool.eq_false_iff.mpr c3
  subst c3
  have H1:(some (⟨#[]⟩:ByteArray))=some r:=by rw [if_neg (show ¬ (false=true) by decide)] at H;exact H
  clear H
  have H:=H1
  clear H1
  obtain rfl:=zi H
  go_wp2_with (first|((with_reducible refine gate_callee (f:=30) rfl ?_);refine goesL_ (some 7) rfl rfl Tryz.func30 (by kernel_rfl) rfl #[.agg #[.slice A0_0 l0_0.length c0_0]] rfl za4 ?_;(with_reducible refine (impl_IsValidProblem.calls k _ _ l0_0 _ _ ?side1 ?side2 A2.out).mono ?_);(case side1=>repeat (first|exact (Kd.C_below HR0_0.out HB.out)|(with_reducible refine Kd.C_alloc ?_ _)|(with_reducible refine Kd.C_drewN ?_ _)|(with_reducible refine Kd.C_drew ?_)));(case side2=>exact HC0_0.out);rintro e w20 ⟨rfl,hb⟩;refine ⟨_,rfl,?_⟩;have n0_:=zk (zb BK31001.out hb);have n1_:=zk (below_step za3 hb);clear BK31001;clear HB;have BK31001:=n0_;have HB:=n1_;clear n0_ n1_;(try clear hb);(try clear hb2);(try clear hk);(try clear hi)))
  go_ret
  exact ⟨za6,za3⟩
def impl_cleared.l0:Nat→ByteArray→Int→ByteArray→ByteArray→ByteArray→Option (ByteArray × ByteArray × ByteArray)
 | 0,_,_,_,_,_=>none
 | k+1,x1,x6,x41002000,x41002001,x41002002=>if x6 < 3 then (if 0≤x6 then ((strings_IndexByte.f x1 (bt (⟨#[88,89,90]⟩:ByteArray) x6)).bind fun t41003=>(if t41003 < 0 then ((impl_WithValue.f x41002000 x41002001 x41002002 (bt (⟨#[88,89,90]⟩:ByteArray) x6) (⟨#[]⟩:ByteArray)).bind fun bt41004=>(impl_cleared.l0 k x1 (wrap64 (x6+1)) bt41004.1 bt41004.2.1 bt41004.2.2)) else (impl_cleared.l0 k x1 (wrap64 (x6+1)) x41002000 x41002001 x41002002))) else (none)) else (some (x41002000,x41002001,x41002002))
def impl_cleared.f (k:Nat) (a0_0:ByteArray) (a0_1:ByteArray) (a0_2:ByteArray) (a1:ByteArray):Option (ByteArray × ByteArray × ByteArray):=impl_cleared.l0 k a1 0 a0_0 a0_1 a0_2
theorem impl_cleared.mono_l:∀ k,(∀ y0 y1 y2 y3 y4,LeO (impl_cleared.l0 k y0 y1 y2 y3 y4) (impl_cleared.l0 (k+1) y0 y1 y2 y3 y4))
 | 0=>fun _ _ _ _ _ r h=>by simp [impl_cleared.l0] at h
 | k+1=>by
  have ih0:=impl_cleared.mono_l k
  ·intro y0 y1 y2 y3 y4
   unfold impl_cleared.l0
   repeat' first
   | with_reducible first|exact ih0 _ _ _ _ _|exact LeO.refl _|exact LeO.none _|refine LeO.ite ?_ ?_|refine LeO.bind ?_ (fun _=>?_)
theorem impl_cleared.mono:∀ a0 a1 a2 a3 k,LeO (impl_cleared.f k a0 a1 a2 a3) (impl_cleared.f (k+1) a0 a1 a2 a3):=by
 intro a0 a1 a2 a3 k
 have ih0:=impl_cleared.mono_l k
 unfold impl_cleared.f
 repeat' first
  | with_reducible first|exact ih0 _ _ _ _ _|exact LeO.refl _|exact LeO.none _|refine LeO.ite ?_ ?_|refine LeO.bind ?_ (fun _=>?_)
theorem impl_cleared.calls (k:Nat) (a0_0:ByteArray) (a0_1:ByteArray) (a0_2:ByteArray) (a1:ByteArray) (r1:ByteArray) (r2:ByteArray) (r3:ByteArray) (w:World) (h:impl_cleared.f k a0_0 a0_1 a0_2 a1=some (r1,r2,r3)) :
   Calls Tryz.prog 41 #[.agg #[.string a0_0,.string a0_1,.string a0_2],.string a1] w fun e w'=>e = .returned (.agg #[.string r1,.string r2,.string r3])∧Below w.heap.size w w':=by
 have hu32:=Tryz.underlying32
 have HB:=zk (Below.refl w.heap.size w)
 have H:(impl_cleared.l0 k a1 0 a0_0 a0_1 a0_2)=some (r1,r2,r3):=h
 clear h
 have H':=zk H
 clear H
 go_enter Tryz.func41,Tryz.ntmps41
 go_wp2_with (first|((with_reducible refine gate_dst (N:=2) rfl ?_);refine zE (N:=2) (cs:=#[.string a0_0,.string a0_1,.string a0_2]) (t:=32) ?_;intro gb41001 hg w3 hbox hb;have n0_:=zk (below_step za3 hb);have n1_:=zk (hbox);have n2_:=zk (zs (w:=w) hg za3);have n3_:=zk (zs (w:=w) hg za3);clear HB;have HB:=n0_;have BK41001:=n1_;have GW41001:=n2_;have GE41001:=n3_;clear n0_ n1_ n2_ n3_;clear hb hbox hg)|((with_reducible refine gate_dst (N:=4) rfl ?_);refine zE (N:=4) (cs:=#[.string (⟨#[]⟩:ByteArray),.string (⟨#[]⟩:ByteArray),.string (⟨#[]⟩:ByteArray)]) (t:=32) ?_;intro gb41002 hg w4 hbox hb;have n0_:=zk (zb BK41001.out hb);have n1_:=zk (below_step za3 hb);have n2_:=zk (hbox);have n3_:=zk (zs (w:=w) hg za3);have n4_:=zk (zs (w:=w) hg za3);have n5_:=zk ((by rw [hg];exact Nat.ne_of_lt (zl BK41001.out):gb41001 ≠ gb41002));have n6_:=zk ((by rw [hg];exact Nat.ne_of_gt (zl BK41001.out):gb41002 ≠ gb41001));clear BK41001;clear HB;have BK41001:=n0_;have HB:=n1_;have BK41002:=n2_;have GW41002:=n3_;have GE41002:=n4_;have NB41001_41002:=n5_;have NB41002_41001:=n6_;clear n0_ n1_ n2_ n3_ n4_ n5_ n6_;clear hb hbox hg))
 first|go_loopg [6] k (fun kq v6 w'=>∃ (x6_1:Int) (x41002000_1:ByteArray) (x41002001_1:ByteArray) (x41002002_1:ByteArray),v6 = .int .i64 x6_1∧Aside0 (impl_cleared.l0 kq a1 x6_1 x41002000_1 x41002001_1 x41002002_1=some (r1,r2,r3))∧Aside0 (kq≤k)∧Aside0 (w'.heap[gb41001]? = some (.cells #[.string x41002000_1,.string x41002001_1,.string x41002002_1] 32 (0,0)))∧Aside0 (w'.heap[gb41002]? = some (.cells #[.string (⟨#[]⟩:ByteArray),.string (⟨#[]⟩:ByteArray),.string (⟨#[]⟩:ByteArray)] 32 (0,0)))∧Aside0 (Below w.heap.size w w'))|(simp only [Act.put,zt,zv,zu];go_loopg [6] k (fun kq v6 w'=>∃ (x6_1:Int) (x41002000_1:ByteArray) (x41002001_1:ByteArray) (x41002002_1:ByteArray),v6 = .int .i64 x6_1∧Aside0 (impl_cleared.l0 kq a1 x6_1 x41002000_1 x41002001_1 x41002002_1=some (r1,r2,r3))∧Aside0 (kq≤k)∧Aside0 (w'.heap[gb41001]? = some (.cells #[.string x41002000_1,.string x41002001_1,.string x41002002_1] 32 (0,0)))∧Aside0 (w'.heap[gb41002]? = some (.cells #[.string (⟨#[]⟩:ByteArray),.string (⟨#[]⟩:ByteArray),.string (⟨#[]⟩:ByteArray)] 32 (0,0)))∧Aside0 (Below w.heap.size w w')))
 case atStart=>exact ⟨(0),(a0_0),(a0_1),(a0_2),za7,H',⟨Nat.le_refl _⟩,⟨za1 BK41001.out⟩,⟨za1 BK41002.out⟩,⟨za3⟩⟩
 case round =>
  clear H'
  obtain ⟨x6_1,x41002000_1,x41002001_1,x41002002_1,rfl,HA,HK1,BK41001,BK41002,HB⟩:=hrel
  cases gk with
  | zero=>exact absurd HA.out (by simp [impl_cleared.l0])
  | succ k1 =>
   have H:=HA.out
   clear HA
   simp only [impl_cleared.l0] at H
   by_cases c5:x6_1 < 3
   rw [if_pos c5] at H
   have c5b0:decide (x6_1 < 3)=true:=decide_eq_true c5
   clear c5
   by_cases c6:0≤x6_1
   rw [if_pos c6] at H
   have c6b0:decide (0≤x6_1)=true:=decide_eq_true c6
   clear c6
   replace H:=zo H
   obtain ⟨t41003,A80,H⟩:=H
   replace H:(if t41003 < 0 then ((impl_WithValue.f x41002000_1 x41002001_1 x41002002_1 (bt (⟨#[88,89,90]⟩:ByteArray) x6_1) (⟨#[]⟩:ByteArray)).bind fun bt41004=>(impl_cleared.l0 k1 a1 (wrap64 (x6_1+1)) bt41004.1 bt41004.2.1 bt41004.2.2)) else (impl_cleared.l0 k1 a1 (wrap64 (x6_1+1)) x41002000_1 x41002001_1 x41002002_1))=some (r1,r2,r3):=H
   have A8:=zk A80
   clear A80
   by_cases c9:t41003 < 0
   ·rw [if_pos c9] at H
    have c9b0:decide (t41003 < 0)=true:=decide_eq_true c9
    clear c9
    replace H:=zo H
    obtain ⟨⟨t41004,t41005,t41006⟩,A110,H⟩:=H
    replace H:(impl_cleared.l0 k1 a1 (wrap64 (x6_1+1)) t41004 t41005 t41006)=some (r1,r2,r3):=H
    have A11:=zk A110
    clear A110
    have H':=zk H
    clear H
    have p7:0≤(x6_1:Int):=of_decide_eq_true za8
    have q7:x6_1 < (3:Int):=of_decide_eq_true za8
    have hx7:=bt_at (⟨#[88,89,90]⟩:ByteArray) x6_1
    replace p7:=eq_true p7
    replace q7:=eq_true q7
    try go_wp2_with (first|((with_reducible refine gate_callee (f:=75) rfl ?_);refine goesL_ (some 12) rfl rfl Tryz.func75 (by kernel_rfl) rfl #[.string a1,.int .u8 (bt (⟨#[88,89,90]⟩:ByteArray) x6_1)] rfl za4 ?_;(with_reducible refine (strings_IndexByte.calls a1 (bt (⟨#[88,89,90]⟩:ByteArray) x6_1) t41003 _ A8.out).mono ?_);rintro e w' ⟨rfl,⟨nd,rfl⟩⟩;refine ⟨_,rfl,?_⟩;(try (rw [drewN_self wr];generalize hq_:World.drewN wr _=wr;have n0_:Aside0 (wr.heap[gb41001]? = some (.cells #[.string x41002000_1,.string x41002001_1,.string x41002002_1] 32 (0,0))):=⟨by rw [← hq_];exact (za1 BK41001.out)⟩;have n1_:Aside0 (wr.heap[gb41002]? = some (.cells #[.string (⟨#[]⟩:ByteArray),.string (⟨#[]⟩:ByteArray),.string (⟨#[]⟩:ByteArray)] 32 (0,0))):=⟨by rw [← hq_];exact (za1 BK41002.out)⟩;have n2_:Aside0 (Below w.heap.size w wr):=⟨by rw [← hq_];exact za3⟩;clear BK41001 BK41002 HB hq_;have BK41001:=n0_;have BK41002:=n1_;have HB:=n2_;clear n0_ n1_ n2_))))
    have n0_:=zk (blk_drew BK41001.out)
    have n1_:=zk (blk_drew BK41002.out)
    have n2_:=zk (below_drew1 HB.out)
    clear BK41001
    clear BK41002
    clear HB
    have BK41001:=n0_
    have BK41002:=n1_
    have HB:=n2_
    clear n0_ n1_ n2_
    have p10:0≤(x6_1:Int):=of_decide_eq_true za8
    have q10:x6_1 < (3:Int):=of_decide_eq_true za8
    have hx10:=bt_at (⟨#[88,89,90]⟩:ByteArray) x6_1
    replace p10:=eq_true p10
    replace q10:=eq_true q10
    refine start_ (n:=5) (S:=fun w'=>w'.cell? ⟨gb41001,0,none⟩=some (.string x41002000_1)∧w'.cell? ⟨gb41001,1,none⟩=some (.string x41002001_1)∧w'.cell? ⟨gb41001,2,none⟩=some (.string x41002002_1)) (ds:=[4]) #[false,false,false,false,false] (by kernel_rfl) rfl rfl ⟨(blk_cell BK41001.out 0).trans rfl,(blk_cell BK41001.out 1).trans rfl,(blk_cell BK41001.out 2).trans rfl⟩ (fun hHeld=>?_)
    generalize wr.drew=w12 at BK41001 BK41002 HB hHeld ⊢
    refine pure_ (i:=1) (N:=some 15) (v:=?_) (a':=?_) #[false,true,false,false,false] rfl rfl (by kernel_rfl) (fun _ _ _ h=>h) (Or.inl ⟨by rfl,?_⟩) ?_ ?_
    rotate_left
    ·intro w'
     go_simp
     exact zr0
    rotate_left
    ·simp only [Act.put,zt,zu,zv,i64_w,i32_w]
     rfl
    refine take_ (i:=0) (N:=some 14) (v:=?_) (a':=?_) #[true,true,false,false,false] rfl rfl (by kernel_rfl) (fun _ _ _ h=>h) (Or.inl ⟨by rfl,?_⟩) hHeld ?_ ?_
    rotate_left
    ·rintro w' ⟨s0,s1,s2⟩
     go_simp
     exact zr0
    rotate_left
    ·simp only [Act.put,zt,zu,zv,i64_w,i32_w]
     rfl
    refine take_ (i:=2) (N:=some 16) (v:=?_) (a':=?_) #[true,true,true,false,false] rfl rfl (by kernel_rfl) (fun _ _ _ h=>h) (Or.inl ⟨by rfl,?_⟩) hHeld ?_ ?_
    rotate_left
    ·rintro w' ⟨s0,s1,s2⟩
     go_simp
     exact zr0
    rotate_left
    ·simp only [Act.put,zt,zu,zv,i64_w,i32_w]
     rfl
    refine one_ (i:=3) (N:=some 17) #[true,true,true,true,false] rfl rfl (by kernel_rfl) (by decide) (fun K hK=>?_)
    refine goes_ Tryz.func34 (by kernel_rfl) rfl #[.agg #[.string x41002000_1,.string x41002001_1,.string x41002002_1],.int .u8 (bt (⟨#[88,89,90]⟩:ByteArray) x6_1),.string (⟨#[]⟩:ByteArray)] (by rfl) rfl rfl za4 ?_
    with_reducible refine (impl_WithValue.calls x41002000_1 x41002001_1 x41002002_1 (bt (⟨#[88,89,90]⟩:ByteArray) x6_1) (⟨#[]⟩:ByteArray) t41004 t41005 t41006 _ A11.out).mono ?_
    rintro e w13 ⟨rfl,hb⟩
    refine ⟨_,rfl,?_⟩
    have n0_:=zk (zb BK41001.out hb)
    have n1_:=zk (zb BK41002.out hb)
    have n2_:=zk (below_step za3 hb)
    clear BK41001
    clear BK41002
    clear HB
    have BK41001:=n0_
    have BK41002:=n1_
    have HB:=n2_
    clear n0_ n1_ n2_
    (try clear hb)
    (try clear hb2)
    (try clear hk)
    (try clear hi)
    refine hK.out _ _ ⟨(blk_cell BK41001.out 0).trans rfl,(blk_cell BK41001.out 1).trans rfl,(blk_cell BK41001.out 2).trans rfl⟩ (fun hHeld=>?_)
    clear hK K
    refine norm_ (a':=?_) ?_ ?_
    rotate_left
    ·show Act.put _ (some 17) _=_
     simp only [Act.put,zt,zu,zv,i64_w,i32_w]
     rfl
    refine last_ (i:=4) (N:=none) #[true,true,true,true,true] rfl rfl (by kernel_rfl) (by decide) (fun K hK=>?_)
    have hs14:w13.cell? ⟨gb41001,0,none⟩=some (.string x41002000_1):=(blk_cell BK41001.out 0).trans rfl
    have hfs14:=blk_frozen BK41001.out 0
    have hns14_1:=NB41002_41001.out
    have hms14_1:=NB41001_41002.out
    have hs15:w13.cell? ⟨gb41001,1,none⟩=some (.string x41002001_1):=(blk_cell BK41001.out 1).trans rfl
    have hfs15:=blk_frozen BK41001.out 1
    have hns15_1:=NB41002_41001.out
    have hms15_1:=NB41001_41002.out
    have hs16:w13.cell? ⟨gb41001,2,none⟩=some (.string x41002002_1):=(blk_cell BK41001.out 2).trans rfl
    have hfs16:=blk_frozen BK41001.out 2
    have hns16_1:=NB41002_41001.out
    have hms16_1:=NB41001_41002.out
    refine skip_ (w1:=?_) (by rfl) rfl ?_ ?_
    rotate_left
    ·go_simp
     rfl
    refine hK.out _ _ ?_
    clear hK K
    refine done_ (by kernel_rfl) ?_
    try go_wp2
    go_roundg k1
    case measure=>have:=HK1.out;omega
    case rel=>exact ⟨(wrap64 (x6_1+1)),(t41004),(t41005),(t41006),za7,H',⟨za15⟩,⟨by (with_reducible repeat (first|refine blk_drewN ?_ _|refine blk_drew ?_|refine blk_alloc ?_ _));refine blk_put (cs:=#[.string t41004,.string t41005,.string x41002002_1]) ?_ 2 _ rfl;(with_reducible repeat (first|refine blk_drewN ?_ _|refine blk_drew ?_|refine blk_alloc ?_ _));refine blk_put (cs:=#[.string t41004,.string x41002001_1,.string x41002002_1]) ?_ 1 _ rfl;(with_reducible repeat (first|refine blk_drewN ?_ _|refine blk_drew ?_|refine blk_alloc ?_ _));refine blk_put (cs:=#[.string x41002000_1,.string x41002001_1,.string x41002002_1]) ?_ 0 _ rfl;(with_reducible repeat (first|refine blk_drewN ?_ _|refine blk_drew ?_|refine blk_alloc ?_ _));exact BK41001.out⟩,⟨by (with_reducible repeat (first|refine blk_drewN ?_ _|refine blk_drew ?_|refine blk_alloc ?_ _));refine blk_far ?_ NB41002_41001.out _;(with_reducible repeat (first|refine blk_drewN ?_ _|refine blk_drew ?_|refine blk_alloc ?_ _));refine blk_far ?_ NB41002_41001.out _;(with_reducible repeat (first|refine blk_drewN ?_ _|refine blk_drew ?_|refine blk_alloc ?_ _));refine blk_far ?_ NB41002_41001.out _;(with_reducible repeat (first|refine blk_drewN ?_ _|refine blk_drew ?_|refine blk_alloc ?_ _));exact BK41002.out⟩,⟨za3⟩⟩
   ·rw [if_neg c9] at H
    have c9b0:decide (t41003 < 0)=false:=decide_eq_false c9
    clear c9
    have H':=zk H
    clear H
    have p7:0≤(x6_1:Int):=of_decide_eq_true za8
    have q7:x6_1 < (3:Int):=of_decide_eq_true za8
    have hx7:=bt_at (⟨#[88,89,90]⟩:ByteArray) x6_1
    replace p7:=eq_true p7
    replace q7:=eq_true q7
    go_wp2_with (first|((with_reducible refine gate_callee (f:=75) rfl ?_);refine goesL_ (some 12) rfl rfl Tryz.func75 (by kernel_rfl) rfl #[.string a1,.int .u8 (bt (⟨#[88,89,90]⟩:ByteArray) x6_1)] rfl za4 ?_;(with_reducible refine (strings_IndexByte.calls a1 (bt (⟨#[88,89,90]⟩:ByteArray) x6_1) t41003 _ A8.out).mono ?_);rintro e w' ⟨rfl,⟨nd,rfl⟩⟩;refine ⟨_,rfl,?_⟩))
    go_roundg k1
    case measure=>have:=HK1.out;omega
    case rel=>exact ⟨(wrap64 (x6_1+1)),(x41002000_1),(x41002001_1),(x41002002_1),za7,H',⟨za15⟩,⟨za1 BK41001.out⟩,⟨za1 BK41002.out⟩,⟨za3⟩⟩
   ·rw [if_neg c6] at H
    exact absurd H (by simp)
   ·rw [if_neg c5] at H
    have c5b0:decide (x6_1 < 3)=false:=decide_eq_false c5
    clear c5
    simp only [Option.some.injEq,Prod.mk.injEq] at H
    obtain ⟨rfl,rfl,rfl⟩:=H
    have hnb17:=NB41001_41002.out
    have hnc17:=NB41002_41001.out
    obtain ⟨hcz18_0,hcz18_1,hcz18_2,hfz18_0,hfz18_1,hfz18_2⟩:=blk3 BK41001.out
    obtain ⟨hcz19_0,hcz19_1,hcz19_2,hfz19_0,hfz19_1,hfz19_2⟩:=blk3 BK41002.out
    go_wp2
    refine bodyPost_ret (results_cell_row rfl _ _ gb41002 32 #[.string x41002000_1,.string x41002001_1,.string x41002002_1] (0,0) _ rfl (by (with_reducible repeat (first|refine blk_drewN ?_ _|refine blk_drew ?_|refine blk_alloc ?_ _));refine blk_put (cs:=#[.string x41002000_1,.string x41002001_1,.string (⟨#[]⟩:ByteArray)]) ?_ 2 _ rfl;(with_reducible repeat (first|refine blk_drewN ?_ _|refine blk_drew ?_|refine blk_alloc ?_ _));refine blk_put (cs:=#[.string x41002000_1,.string (⟨#[]⟩:ByteArray),.string (⟨#[]⟩:ByteArray)]) ?_ 1 _ rfl;(with_reducible repeat (first|refine blk_drewN ?_ _|refine blk_drew ?_|refine blk_alloc ?_ _));refine blk_put (cs:=#[.string (⟨#[]⟩:ByteArray),.string (⟨#[]⟩:ByteArray),.string (⟨#[]⟩:ByteArray)]) ?_ 0 _ rfl;(with_reducible repeat (first|refine blk_drewN ?_ _|refine blk_drew ?_|refine blk_alloc ?_ _));exact BK41002.out) Tryz.underlying32 rfl (by kernel_rfl)) rfl ?_
    exact ⟨za6,za3⟩
end Go.Proofs.YtffjfdoghofkdaaGreat.A
-- ALSO loop.example/g00582/impl.VarsOfProblem
-- ALSO loop.example/g00582/impl.cleared
-- ALSO loop.example/g00582/impl.IsValues
-- ALSO loop.example/g00582/impl.holds
namespace Go.Proofs.YtffjfdoghofkdaaGreat.Ext
open Go.RowKit YtffjfdoghofkdaaGreatW.PrintWords YtffjfdoghofkdaaGreatW.PrintLast YtffjfdoghofkdaaGreat.A
theorem toList_same {s t:ByteArray} (h:s.toList=t.toList):s=t:=by
 rw [Lib.toList_data,Lib.toList_data] at h
 cases s;cases t
 simp only [ByteArray.mk.injEq]
 exact Array.toList_inj.1 h
def notHolds (a b c:ByteArray) (x:S67):Option Bool:=(impl_holds.f x.f0 x.f1 x.f2 x.f3.f0 x.f3.f1 x.f3.f2 x.f4 x.f5 a b c).bind fun t=>some (!t)
set_option maxHeartbeats 1000000 in
theorem clo_model (a b c:ByteArray) (x:S67) (r:Bool) (h:notHolds a b c x=some r) (gv:Nat) (A5:Option Addr) (c5:Nat) (A6:Option Addr) (c6:Nat) (W:World) (hX:W.heap[gv]? = some (.cells #[.string a,.string b,.string c] 32 (0,0))) (g1:x.f3.f2.length≤c5) (g2:Kd.C k65 W A5 x.f3.f2.length x.f3.f2) (g3:x.f4.length≤c6) (g4:(Kd.int .i64).C W A6 x.f4.length x.f4) :
  Calls Tryz.prog 43 #[.agg #[.int .i64 x.f0,.string x.f1,.string x.f2,.int .i64 x.f3.f0,.string x.f3.f1,.slice A5 x.f3.f2.length c5,.slice A6 x.f4.length c6,.int .i64 x.f5],.pointer (some ⟨gv,0,none⟩)] W fun e W'=>e = .returned (.bool r)∧Below W.heap.size W W':=by
 obtain ⟨t,ht,hr⟩:=zo h
 obtain rfl:=zi hr
 have HV:=zk (fun (W':World) (hB:Below W.heap.size W W')=>impl_holds.calls x.f0 x.f1 x.f2 x.f3.f0 x.f3.f1 A5 c5 x.f3.f2 A6 c6 x.f4 x.f5 a b c t W' (Kd.C_below g2 hB) g1 (Kd.C_below g4 hB) g3 ht)
 have HB:=zk (Below.refl W.heap.size W)
 have HX:=zk hX
 obtain ⟨f0,f1,f2,⟨d,e,l⟩,f4,f5⟩:=x
 simp only at HV ⊢
 clear g1 g2 g3 g4 h ht hr hX
 go_enter Tryz.func43,Tryz.ntmps43
 go_wp2_with (first
  | ((with_reducible refine gate_dst (N:=2) rfl ?_);refine zE (N:=2) (cs:=#[.int .i64 f0,.string f1,.string f2,.int .i64 d,.string e,.slice A5 l.length c5,.slice A6 f4.length c6,.int .i64 f5]) (t:=67) ?_;intro gr hgr w3 hbox hb3;have X3:=zk hbox;have B3:=zk (below_step HB.out hb3);obtain ⟨z0,z1,z2,u0,u1,u2⟩:=blk3 (blk_below HX.out hb3);obtain ⟨y0,y1,y2,y3,y4,y5,y6,y7,q0,q1,q2,q3,q4,q5,q6,q7⟩:=blk8 hbox;clear hb3 hbox hgr)
  | (go_at_call 44;(with_reducible refine (HV.out _ (by first|exact B3.out|exact pw_below_drewN B3.out _|exact below_drew B3.out|exact HB.out)).mono ?_);rintro e w2 ⟨rfl,hb2⟩;have B2:=zk (show Below W.heap.size W w2 by first|exact below_step B3.out hb2|exact below_step HB.out hb2);clear hb2))
 go_ret
 exact ⟨za42,by first|exact B2.out|exact B3.out⟩
-- EXT loop.example/g00582/impl.IsModel rounds making
def impl_IsModel.f (k:Nat) (l0_0:List S67) (a1_0:ByteArray) (a1_1:ByteArray) (a1_2:ByteArray):Option Bool :=
 (impl_IsValidProblem.f k l0_0).bind fun t=>if t=true then ((impl_IsValues.f k a1_0 a1_1 a1_2).bind fun u=>if u=true then ((impl_VarsOfProblem.f k l0_0).bind fun vs=>(impl_cleared.f k a1_0 a1_1 a1_2 vs).bind fun q=>if q=(a1_0,a1_1,a1_2) then ((anyO (notHolds a1_0 a1_1 a1_2) l0_0).bind fun b=>some (!b)) else some false) else some false) else some false
theorem impl_IsModel.mono (a0:List S67) (a1 a2 a3:ByteArray) (k:Nat):LeO (impl_IsModel.f k a0 a1 a2 a3) (impl_IsModel.f (k+1) a0 a1 a2 a3):=by
 unfold impl_IsModel.f
 exact LeO.bind (impl_IsValidProblem.mono _ _) fun t=>LeO.ite (LeO.bind (impl_IsValues.mono _ _ _ _) fun u=>LeO.ite (LeO.bind (impl_VarsOfProblem.mono _ _) fun vs=>LeO.bind (impl_cleared.mono _ _ _ _ _) fun q=>LeO.refl _) (LeO.refl _)) (LeO.refl _)
set_option maxHeartbeats 20000000 in
theorem impl_IsModel.calls (k:Nat) (A0_0:Option Addr) (c0_0:Nat) (l0_0:List S67) (a1_0:ByteArray) (a1_1:ByteArray) (a1_2:ByteArray) (r:Bool) (w:World) (hr0_0:Kd.C k67 w A0_0 l0_0.length l0_0) (hc0_0:l0_0.length≤c0_0) (h:impl_IsModel.f k l0_0 a1_0 a1_1 a1_2=some r) :
  Calls Tryz.prog 15 #[.agg #[.slice A0_0 l0_0.length c0_0],.agg #[.string a1_0,.string a1_1,.string a1_2]] w fun e w'=>e = .returned (.bool r)∧Below w.heap.size w w':=by
 have HB:=zk (Below.refl w.heap.size w)
 have HR:=zk hr0_0
 have HC:=zk hc0_0
 unfold impl_IsModel.f at h
 replace h:=zo h
 obtain ⟨t,ht,h⟩:=h
 have HV:=zk (fun (W:World) (hB:Below w.heap.size w W)=>impl_IsValidProblem.calls k A0_0 c0_0 l0_0 t W (Kd.C_below hr0_0 hB) hc0_0 ht)
 have HL6:Aside0 (t=true→l0_0.length≤6):=⟨fun e=>by
  subst e
  unfold impl_IsValidProblem.f at ht
  split at ht
  ·assumption
  ·cases ht⟩
 clear ht
 go_enter Tryz.func15,Tryz.ntmps15
 go_upto_region 1 with (first
  | ((with_reducible refine gate_dst (N:=2) rfl ?_);refine zE (N:=2) (cs:=#[.slice A0_0 l0_0.length c0_0]) (t:=26) ?_;intro gp hgp w3 hbox hb3;have X3:=zk hbox;have B3:=zk (below_step HB.out hb3);clear hb3 hbox hgp)
  | ((with_reducible refine gate_dst (N:=3) rfl ?_);refine zE (N:=3) (cs:=#[.string a1_0,.string a1_1,.string a1_2]) (t:=32) ?_;intro gv hgv w4 hbox hb4;have X4:=zk hbox;have Y4:=zk (blk_below X3.out hb4);have B4:=zk (below_step B3.out hb4);clear hb4 hbox hgv))
 obtain ⟨y0,g0⟩:=blk1 Y4.out
 obtain ⟨z0,z1,z2,u0,u1,u2⟩:=blk3 X4.out
 cases t with
 | false =>
  obtain rfl:=zi (show some false=some r from h)
  clear h hr0_0 hc0_0
  go_region_with (first|(go_at_call 30;(with_reducible refine (HV.out _ (by first|exact B4.out|exact below_drew B4.out|exact pw_below_drewN B4.out _)).mono ?_);rintro e w5 ⟨rfl,hb5⟩;have B5:=zk (show Below w.heap.size w w5 by first|exact below_step B4.out hb5|exact below_step (below_drew B4.out) hb5|exact below_step (pw_below_drewN B4.out _) hb5);clear hb5))
  all_goals
   go_wp2
   go_ret
   exact ⟨za42,by first|exact B5.out|exact below_drew B5.out|exact pw_below_drewN B5.out _⟩
 | true =>
  rw [if_pos rfl] at h
  replace h:=zo h
  obtain ⟨u,hu,h⟩:=h
  have HI:=zk (fun (W:World) (_:Below w.heap.size w W)=>impl_IsValues.calls k a1_0 a1_1 a1_2 u W hu)
  have h6:=HL6.out rfl
  have HBc:=B4
  have Yc:=Y4
  have Xc:=X4
  clear hu B4 Y4 X4 X3 B3 HL6
  cases u with
  | false =>
   obtain rfl:=zi (show some false=some r from h)
   clear h hr0_0 hc0_0
   go_region_with (first|(go_at_call 30;(with_reducible refine (HV.out _ za12).mono ?_);rintro e w5 ⟨rfl,hb5⟩;have n1:=zk (show Below w.heap.size w w5 by first|exact below_step HBc.out hb5|exact below_step (below_drew HBc.out) hb5|exact below_step (pw_below_drewN HBc.out _) hb5);have n2:=zk (show w5.heap[gp]? = _ by first|exact blk_below Yc.out hb5|exact blk_below (blk_drew Yc.out) hb5|exact blk_below (blk_drewN Yc.out _) hb5);have n3:=zk (show w5.heap[gv]? = _ by first|exact blk_below Xc.out hb5|exact blk_below (blk_drew Xc.out) hb5|exact blk_below (blk_drewN Xc.out _) hb5);clear HBc Yc Xc y0 g0 z0 z1 z2 u0 u1 u2 hb5;have HBc:=n1;have Yc:=n2;have Xc:=n3;clear n1 n2 n3;obtain ⟨y0,g0⟩:=blk1 Yc.out;obtain ⟨z0,z1,z2,u0,u1,u2⟩:=blk3 Xc.out)|(go_at_call 40;(with_reducible refine (HI.out _ za12).mono ?_);rintro e w5 ⟨rfl,hb5⟩;have n1:=zk (show Below w.heap.size w w5 by first|exact below_step HBc.out hb5|exact below_step (below_drew HBc.out) hb5|exact below_step (pw_below_drewN HBc.out _) hb5);have n2:=zk (show w5.heap[gp]? = _ by first|exact blk_below Yc.out hb5|exact blk_below (blk_drew Yc.out) hb5|exact blk_below (blk_drewN Yc.out _) hb5);have n3:=zk (show w5.heap[gv]? = _ by first|exact blk_below Xc.out hb5|exact blk_below (blk_drew Xc.out) hb5|exact blk_below (blk_drewN Xc.out _) hb5);clear HBc Yc Xc y0 g0 z0 z1 z2 u0 u1 u2 hb5;have HBc:=n1;have Yc:=n2;have Xc:=n3;clear n1 n2 n3;obtain ⟨y0,g0⟩:=blk1 Yc.out;obtain ⟨z0,z1,z2,u0,u1,u2⟩:=blk3 Xc.out))
   all_goals
    go_wp2
    go_ret
    exact ⟨za42,za12⟩
  | true =>
   rw [if_pos rfl] at h
   replace h:=zo h
   obtain ⟨vs,hvs,h⟩:=h
   replace h:=zo h
   obtain ⟨⟨q1,q2,q3⟩,hq,h⟩:=h
   have HP:=zk (fun (W:World) (hB:Below w.heap.size w W)=>impl_VarsOfProblem.calls k A0_0 c0_0 l0_0 vs W (Kd.C_below hr0_0 hB) hc0_0 hvs)
   have HQ:=zk (fun (W:World) (_:Below w.heap.size w W)=>impl_cleared.calls k a1_0 a1_1 a1_2 vs q1 q2 q3 W hq)
   clear hvs hq hr0_0 hc0_0
   by_cases he:(q1,q2,q3)=(a1_0,a1_1,a1_2)
   ·rw [if_pos he] at h
    obtain ⟨rfl,rfl,rfl⟩:q1=a1_0∧q2=a1_1∧q3=a1_2:=by simpa using he
    have HH:=zk h
    clear he h
    go_region_held3 (fun w'=>w'.cell? ⟨gp,0,none⟩=some (.slice A0_0 l0_0.length c0_0)∧w'.cell? ⟨gv,0,none⟩=some (.string q1)∧w'.cell? ⟨gv,1,none⟩=some (.string q2)∧w'.cell? ⟨gv,2,none⟩=some (.string q3)) (go_keep) (first|(go_at_call 30;(with_reducible refine (HV.out _ za12).mono ?_);rintro e w5 ⟨rfl,hb5⟩;have n1:=zk (show Below w.heap.size w w5 by first|exact below_step HBc.out hb5|exact below_step (below_drew HBc.out) hb5|exact below_step (pw_below_drewN HBc.out _) hb5);have n2:=zk (show w5.heap[gp]? = _ by first|exact blk_below Yc.out hb5|exact blk_below (blk_drew Yc.out) hb5|exact blk_below (blk_drewN Yc.out _) hb5);have n3:=zk (show w5.heap[gv]? = _ by first|exact blk_below Xc.out hb5|exact blk_below (blk_drew Xc.out) hb5|exact blk_below (blk_drewN Xc.out _) hb5);clear HBc Yc Xc y0 g0 z0 z1 z2 u0 u1 u2 hb5;have HBc:=n1;have Yc:=n2;have Xc:=n3;clear n1 n2 n3;obtain ⟨y0,g0⟩:=blk1 Yc.out;obtain ⟨z0,z1,z2,u0,u1,u2⟩:=blk3 Xc.out)|(go_at_call 40;(with_reducible refine (HI.out _ za12).mono ?_);rintro e w5 ⟨rfl,hb5⟩;have n1:=zk (show Below w.heap.size w w5 by first|exact below_step HBc.out hb5|exact below_step (below_drew HBc.out) hb5|exact below_step (pw_below_drewN HBc.out _) hb5);have n2:=zk (show w5.heap[gp]? = _ by first|exact blk_below Yc.out hb5|exact blk_below (blk_drew Yc.out) hb5|exact blk_below (blk_drewN Yc.out _) hb5);have n3:=zk (show w5.heap[gv]? = _ by first|exact blk_below Xc.out hb5|exact blk_below (blk_drew Xc.out) hb5|exact blk_below (blk_drewN Xc.out _) hb5);clear HBc Yc Xc y0 g0 z0 z1 z2 u0 u1 u2 hb5;have HBc:=n1;have Yc:=n2;have Xc:=n3;clear n1 n2 n3;obtain ⟨y0,g0⟩:=blk1 Yc.out;obtain ⟨z0,z1,z2,u0,u1,u2⟩:=blk3 Xc.out)|(go_at_call 31;(with_reducible refine (HP.out _ za12).mono ?_);rintro e w5 ⟨rfl,hb5⟩;have n1:=zk (show Below w.heap.size w w5 by first|exact below_step HBc.out hb5|exact below_step (below_drew HBc.out) hb5|exact below_step (pw_below_drewN HBc.out _) hb5);have n2:=zk (show w5.heap[gp]? = _ by first|exact blk_below Yc.out hb5|exact blk_below (blk_drew Yc.out) hb5|exact blk_below (blk_drewN Yc.out _) hb5);have n3:=zk (show w5.heap[gv]? = _ by first|exact blk_below Xc.out hb5|exact blk_below (blk_drew Xc.out) hb5|exact blk_below (blk_drewN Xc.out _) hb5);clear HBc Yc Xc y0 g0 z0 z1 z2 u0 u1 u2 hb5;have HBc:=n1;have Yc:=n2;have Xc:=n3;clear n1 n2 n3;obtain ⟨y0,g0⟩:=blk1 Yc.out;obtain ⟨z0,z1,z2,u0,u1,u2⟩:=blk3 Xc.out)|(go_at_call 41;(with_reducible refine (HQ.out _ za12).mono ?_);rintro e w5 ⟨rfl,hb5⟩;have n1:=zk (show Below w.heap.size w w5 by first|exact below_step HBc.out hb5|exact below_step (below_drew HBc.out) hb5|exact below_step (pw_below_drewN HBc.out _) hb5);have n2:=zk (show w5.heap[gp]? = _ by first|exact blk_below Yc.out hb5|exact blk_below (blk_drew Yc.out) hb5|exact blk_below (blk_drewN Yc.out _) hb5);have n3:=zk (show w5.heap[gv]? = _ by first|exact blk_below Xc.out hb5|exact blk_below (blk_drew Xc.out) hb5|exact blk_below (blk_drewN Xc.out _) hb5);clear HBc Yc Xc y0 g0 z0 z1 z2 u0 u1 u2 hb5;have HBc:=n1;have Yc:=n2;have Xc:=n3;clear n1 n2 n3;obtain ⟨y0,g0⟩:=blk1 Yc.out;obtain ⟨z0,z1,z2,u0,u1,u2⟩:=blk3 Xc.out))
    obtain ⟨b,hb,hr⟩:=zo HH.out
    obtain rfl:=zi hr
    obtain ⟨a1,a2⟩:=anyO_at hb
    have CC:=any_cs _ 43 #[.pointer (some ⟨gv,0,none⟩)] (enters_of Tryz.func43 (by kernel_rfl) rfl) A0_0 l0_0 c0_0 w5 (by omega) (Kd.C_below HR.out HBc.out) (fun i hi A5 c5 A6 c6 W hB g1 g2 g3 g4=>clo_model q1 q2 q3 l0_0[i] _ (a2 i hi) gv A5 c5 A6 c6 W (blk_below Xc.out hB) g1 (Kd.C_below g2 hB) g3 (Kd.C_below g4 hB))
    rw [a1] at CC
    have HCC:=zk CC
    clear CC a1 a2 hb hr HH HV HI HP HQ
    go_wp2_with (go_at_call 42;(with_reducible refine HCC.out.mono ?_);rintro e w9 ⟨rfl,hb9⟩;have B9:=zk (below_step HBc.out hb9);clear hb9)
    go_ret
    exact ⟨za42,B9.out⟩
   ·rw [if_neg he] at h
    obtain rfl:=zi (show some false=some r from h)
    have HE:=zk he
    clear he h
    by_cases e1:q1.toList=a1_0.toList
    ·have e1':=eq_true e1
     by_cases e2:q2.toList=a1_1.toList
     ·have e2':=eq_true e2
      have e3:¬ q3.toList=a1_2.toList:=fun e3=>HE.out (by rw [toList_same e1,toList_same e2,toList_same e3])
      have e3':=eq_false e3
      clear e1 e2 e3
      go_region_held3 (fun w'=>w'.cell? ⟨gp,0,none⟩=some (.slice A0_0 l0_0.length c0_0)∧w'.cell? ⟨gv,0,none⟩=some (.string a1_0)∧w'.cell? ⟨gv,1,none⟩=some (.string a1_1)∧w'.cell? ⟨gv,2,none⟩=some (.string a1_2)) (go_keep) (first|(go_at_call 30;(with_reducible refine (HV.out _ za12).mono ?_);rintro e w5 ⟨rfl,hb5⟩;have n1:=zk (show Below w.heap.size w w5 by first|exact below_step HBc.out hb5|exact below_step (below_drew HBc.out) hb5|exact below_step (pw_below_drewN HBc.out _) hb5);have n2:=zk (show w5.heap[gp]? = _ by first|exact blk_below Yc.out hb5|exact blk_below (blk_drew Yc.out) hb5|exact blk_below (blk_drewN Yc.out _) hb5);have n3:=zk (show w5.heap[gv]? = _ by first|exact blk_below Xc.out hb5|exact blk_below (blk_drew Xc.out) hb5|exact blk_below (blk_drewN Xc.out _) hb5);clear HBc Yc Xc y0 g0 z0 z1 z2 u0 u1 u2 hb5;have HBc:=n1;have Yc:=n2;have Xc:=n3;clear n1 n2 n3;obtain ⟨y0,g0⟩:=blk1 Yc.out;obtain ⟨z0,z1,z2,u0,u1,u2⟩:=blk3 Xc.out)|(go_at_call 40;(with_reducible refine (HI.out _ za12).mono ?_);rintro e w5 ⟨rfl,hb5⟩;have n1:=zk (show Below w.heap.size w w5 by first|exact below_step HBc.out hb5|exact below_step (below_drew HBc.out) hb5|exact below_step (pw_below_drewN HBc.out _) hb5);have n2:=zk (show w5.heap[gp]? = _ by first|exact blk_below Yc.out hb5|exact blk_below (blk_drew Yc.out) hb5|exact blk_below (blk_drewN Yc.out _) hb5);have n3:=zk (show w5.heap[gv]? = _ by first|exact blk_below Xc.out hb5|exact blk_below (blk_drew Xc.out) hb5|exact blk_below (blk_drewN Xc.out _) hb5);clear HBc Yc Xc y0 g0 z0 z1 z2 u0 u1 u2 hb5;have HBc:=n1;have Yc:=n2;have Xc:=n3;clear n1 n2 n3;obtain ⟨y0,g0⟩:=blk1 Yc.out;obtain ⟨z0,z1,z2,u0,u1,u2⟩:=blk3 Xc.out)|(go_at_call 31;(with_reducible refine (HP.out _ za12).mono ?_);rintro e w5 ⟨rfl,hb5⟩;have n1:=zk (show Below w.heap.size w w5 by first|exact below_step HBc.out hb5|exact below_step (below_drew HBc.out) hb5|exact below_step (pw_below_drewN HBc.out _) hb5);have n2:=zk (show w5.heap[gp]? = _ by first|exact blk_below Yc.out hb5|exact blk_below (blk_drew Yc.out) hb5|exact blk_below (blk_drewN Yc.out _) hb5);have n3:=zk (show w5.heap[gv]? = _ by first|exact blk_below Xc.out hb5|exact blk_below (blk_drew Xc.out) hb5|exact blk_below (blk_drewN Xc.out _) hb5);clear HBc Yc Xc y0 g0 z0 z1 z2 u0 u1 u2 hb5;have HBc:=n1;have Yc:=n2;have Xc:=n3;clear n1 n2 n3;obtain ⟨y0,g0⟩:=blk1 Yc.out;obtain ⟨z0,z1,z2,u0,u1,u2⟩:=blk3 Xc.out)|(go_at_call 41;(with_reducible refine (HQ.out _ za12).mono ?_);rintro e w5 ⟨rfl,hb5⟩;have n1:=zk (show Below w.heap.size w w5 by first|exact below_step HBc.out hb5|exact below_step (below_drew HBc.out) hb5|exact below_step (pw_below_drewN HBc.out _) hb5);have n2:=zk (show w5.heap[gp]? = _ by first|exact blk_below Yc.out hb5|exact blk_below (blk_drew Yc.out) hb5|exact blk_below (blk_drewN Yc.out _) hb5);have n3:=zk (show w5.heap[gv]? = _ by first|exact blk_below Xc.out hb5|exact blk_below (blk_drew Xc.out) hb5|exact blk_below (blk_drewN Xc.out _) hb5);clear HBc Yc Xc y0 g0 z0 z1 z2 u0 u1 u2 hb5;have HBc:=n1;have Yc:=n2;have Xc:=n3;clear n1 n2 n3;obtain ⟨y0,g0⟩:=blk1 Yc.out;obtain ⟨z0,z1,z2,u0,u1,u2⟩:=blk3 Xc.out))
      all_goals
       go_wp2
       go_ret
       exact ⟨za42,za12⟩
     ·have e2':=eq_false e2
      clear e1 e2
      go_region_held3 (fun w'=>w'.cell? ⟨gp,0,none⟩=some (.slice A0_0 l0_0.length c0_0)∧w'.cell? ⟨gv,0,none⟩=some (.string a1_0)∧w'.cell? ⟨gv,1,none⟩=some (.string a1_1)∧w'.cell? ⟨gv,2,none⟩=some (.string a1_2)) (go_keep) (first|(go_at_call 30;(with_reducible refine (HV.out _ za12).mono ?_);rintro e w5 ⟨rfl,hb5⟩;have n1:=zk (show Below w.heap.size w w5 by first|exact below_step HBc.out hb5|exact below_step (below_drew HBc.out) hb5|exact below_step (pw_below_drewN HBc.out _) hb5);have n2:=zk (show w5.heap[gp]? = _ by first|exact blk_below Yc.out hb5|exact blk_below (blk_drew Yc.out) hb5|exact blk_below (blk_drewN Yc.out _) hb5);have n3:=zk (show w5.heap[gv]? = _ by first|exact blk_below Xc.out hb5|exact blk_below (blk_drew Xc.out) hb5|exact blk_below (blk_drewN Xc.out _) hb5);clear HBc Yc Xc y0 g0 z0 z1 z2 u0 u1 u2 hb5;have HBc:=n1;have Yc:=n2;have Xc:=n3;clear n1 n2 n3;obtain ⟨y0,g0⟩:=blk1 Yc.out;obtain ⟨z0,z1,z2,u0,u1,u2⟩:=blk3 Xc.out)|(go_at_call 40;(with_reducible refine (HI.out _ za12).mono ?_);rintro e w5 ⟨rfl,hb5⟩;have n1:=zk (show Below w.heap.size w w5 by first|exact below_step HBc.out hb5|exact below_step (below_drew HBc.out) hb5|exact below_step (pw_below_drewN HBc.out _) hb5);have n2:=zk (show w5.heap[gp]? = _ by first|exact blk_below Yc.out hb5|exact blk_below (blk_drew Yc.out) hb5|exact blk_below (blk_drewN Yc.out _) hb5);have n3:=zk (show w5.heap[gv]? = _ by first|exact blk_below Xc.out hb5|exact blk_below (blk_drew Xc.out) hb5|exact blk_below (blk_drewN Xc.out _) hb5);clear HBc Yc Xc y0 g0 z0 z1 z2 u0 u1 u2 hb5;have HBc:=n1;have Yc:=n2;have Xc:=n3;clear n1 n2 n3;obtain ⟨y0,g0⟩:=blk1 Yc.out;obtain ⟨z0,z1,z2,u0,u1,u2⟩:=blk3 Xc.out)|(go_at_call 31;(with_reducible refine (HP.out _ za12).mono ?_);rintro e w5 ⟨rfl,hb5⟩;have n1:=zk (show Below w.heap.size w w5 by first|exact below_step HBc.out hb5|exact below_step (below_drew HBc.out) hb5|exact below_step (pw_below_drewN HBc.out _) hb5);have n2:=zk (show w5.heap[gp]? = _ by first|exact blk_below Yc.out hb5|exact blk_below (blk_drew Yc.out) hb5|exact blk_below (blk_drewN Yc.out _) hb5);have n3:=zk (show w5.heap[gv]? = _ by first|exact blk_below Xc.out hb5|exact blk_below (blk_drew Xc.out) hb5|exact blk_below (blk_drewN Xc.out _) hb5);clear HBc Yc Xc y0 g0 z0 z1 z2 u0 u1 u2 hb5;have HBc:=n1;have Yc:=n2;have Xc:=n3;clear n1 n2 n3;obtain ⟨y0,g0⟩:=blk1 Yc.out;obtain ⟨z0,z1,z2,u0,u1,u2⟩:=blk3 Xc.out)|(go_at_call 41;(with_reducible refine (HQ.out _ za12).mono ?_);rintro e w5 ⟨rfl,hb5⟩;have n1:=zk (show Below w.heap.size w w5 by first|exact below_step HBc.out hb5|exact below_step (below_drew HBc.out) hb5|exact below_step (pw_below_drewN HBc.out _) hb5);have n2:=zk (show w5.heap[gp]? = _ by first|exact blk_below Yc.out hb5|exact blk_below (blk_drew Yc.out) hb5|exact blk_below (blk_drewN Yc.out _) hb5);have n3:=zk (show w5.heap[gv]? = _ by first|exact blk_below Xc.out hb5|exact blk_below (blk_drew Xc.out) hb5|exact blk_below (blk_drewN Xc.out _) hb5);clear HBc Yc Xc y0 g0 z0 z1 z2 u0 u1 u2 hb5;have HBc:=n1;have Yc:=n2;have Xc:=n3;clear n1 n2 n3;obtain ⟨y0,g0⟩:=blk1 Yc.out;obtain ⟨z0,z1,z2,u0,u1,u2⟩:=blk3 Xc.out))
      all_goals
       go_wp2
       go_ret
       exact ⟨za42,za12⟩
    ·have e1':=eq_false e1
     clear e1
     go_region_held3 (fun w'=>w'.cell? ⟨gp,0,none⟩=some (.slice A0_0 l0_0.length c0_0)∧w'.cell? ⟨gv,0,none⟩=some (.string a1_0)∧w'.cell? ⟨gv,1,none⟩=some (.string a1_1)∧w'.cell? ⟨gv,2,none⟩=some (.string a1_2)) (go_keep) (first|(go_at_call 30;(with_reducible refine (HV.out _ za12).mono ?_);rintro e w5 ⟨rfl,hb5⟩;have n1:=zk (show Below w.heap.size w w5 by first|exact below_step HBc.out hb5|exact below_step (below_drew HBc.out) hb5|exact below_step (pw_below_drewN HBc.out _) hb5);have n2:=zk (show w5.heap[gp]? = _ by first|exact blk_below Yc.out hb5|exact blk_below (blk_drew Yc.out) hb5|exact blk_below (blk_drewN Yc.out _) hb5);have n3:=zk (show w5.heap[gv]? = _ by first|exact blk_below Xc.out hb5|exact blk_below (blk_drew Xc.out) hb5|exact blk_below (blk_drewN Xc.out _) hb5);clear HBc Yc Xc y0 g0 z0 z1 z2 u0 u1 u2 hb5;have HBc:=n1;have Yc:=n2;have Xc:=n3;clear n1 n2 n3;obtain ⟨y0,g0⟩:=blk1 Yc.out;obtain ⟨z0,z1,z2,u0,u1,u2⟩:=blk3 Xc.out)|(go_at_call 40;(with_reducible refine (HI.out _ za12).mono ?_);rintro e w5 ⟨rfl,hb5⟩;have n1:=zk (show Below w.heap.size w w5 by first|exact below_step HBc.out hb5|exact below_step (below_drew HBc.out) hb5|exact below_step (pw_below_drewN HBc.out _) hb5);have n2:=zk (show w5.heap[gp]? = _ by first|exact blk_below Yc.out hb5|exact blk_below (blk_drew Yc.out) hb5|exact blk_below (blk_drewN Yc.out _) hb5);have n3:=zk (show w5.heap[gv]? = _ by first|exact blk_below Xc.out hb5|exact blk_below (blk_drew Xc.out) hb5|exact blk_below (blk_drewN Xc.out _) hb5);clear HBc Yc Xc y0 g0 z0 z1 z2 u0 u1 u2 hb5;have HBc:=n1;have Yc:=n2;have Xc:=n3;clear n1 n2 n3;obtain ⟨y0,g0⟩:=blk1 Yc.out;obtain ⟨z0,z1,z2,u0,u1,u2⟩:=blk3 Xc.out)|(go_at_call 31;(with_reducible refine (HP.out _ za12).mono ?_);rintro e w5 ⟨rfl,hb5⟩;have n1:=zk (show Below w.heap.size w w5 by first|exact below_step HBc.out hb5|exact below_step (below_drew HBc.out) hb5|exact below_step (pw_below_drewN HBc.out _) hb5);have n2:=zk (show w5.heap[gp]? = _ by first|exact blk_below Yc.out hb5|exact blk_below (blk_drew Yc.out) hb5|exact blk_below (blk_drewN Yc.out _) hb5);have n3:=zk (show w5.heap[gv]? = _ by first|exact blk_below Xc.out hb5|exact blk_below (blk_drew Xc.out) hb5|exact blk_below (blk_drewN Xc.out _) hb5);clear HBc Yc Xc y0 g0 z0 z1 z2 u0 u1 u2 hb5;have HBc:=n1;have Yc:=n2;have Xc:=n3;clear n1 n2 n3;obtain ⟨y0,g0⟩:=blk1 Yc.out;obtain ⟨z0,z1,z2,u0,u1,u2⟩:=blk3 Xc.out)|(go_at_call 41;(with_reducible refine (HQ.out _ za12).mono ?_);rintro e w5 ⟨rfl,hb5⟩;have n1:=zk (show Below w.heap.size w w5 by first|exact below_step HBc.out hb5|exact below_step (below_drew HBc.out) hb5|exact below_step (pw_below_drewN HBc.out _) hb5);have n2:=zk (show w5.heap[gp]? = _ by first|exact blk_below Yc.out hb5|exact blk_below (blk_drew Yc.out) hb5|exact blk_below (blk_drewN Yc.out _) hb5);have n3:=zk (show w5.heap[gv]? = _ by first|exact blk_below Xc.out hb5|exact blk_below (blk_drew Xc.out) hb5|exact blk_below (blk_drewN Xc.out _) hb5);clear HBc Yc Xc y0 g0 z0 z1 z2 u0 u1 u2 hb5;have HBc:=n1;have Yc:=n2;have Xc:=n3;clear n1 n2 n3;obtain ⟨y0,g0⟩:=blk1 Yc.out;obtain ⟨z0,z1,z2,u0,u1,u2⟩:=blk3 Xc.out))
     all_goals
      go_wp2
      go_ret
      exact ⟨za42,za12⟩
end Go.Proofs.YtffjfdoghofkdaaGreat.Ext
namespace Go.Proofs.YtffjfdoghofkdaaGreat.A
open Go.RowKit YtffjfdoghofkdaaGreat.Ext YtffjfdoghofkdaaGreatW.PrintWords YtffjfdoghofkdaaGreatW.PrintLast YtffjfdoghofkdaaGreatW.PrintMore
attribute [local go_sem] max2_int min2_int max_two min_two max_three min_three max_four min_four
def impl_BoundOf.f (k:Nat) (l0_0:List (S67)):Option (Int):=(impl_IsValidProblem.f k l0_0).bind fun t13002=>(if t13002=true then ((some (([5,5,3,2]:List Int):List Int)).bind fun y13003=>((impl_VarsOfProblem.f k l0_0).bind fun t13006=>(if 0≤(t13006.size:Int) then (if (t13006.size:Int) < (y13003.length:Int) then (some (rd y13003 (t13006.size:Int))) else (none)) else (none)))) else (some (-1)))
theorem impl_BoundOf.mono:∀ a0 k,LeO (impl_BoundOf.f k a0) (impl_BoundOf.f (k+1) a0):=by
 intro a0 k
 unfold impl_BoundOf.f
 repeat' first
  | with_reducible first|exact impl_IsValidProblem.mono _ _|exact impl_VarsOfProblem.mono _ _|exact LeO.refl _|exact LeO.none _|refine LeO.ite ?_ ?_|refine LeO.bind ?_ (fun _=>?_)
theorem impl_BoundOf.calls (k:Nat) (A0_0:Option Addr) (c0_0:Nat) (l0_0:List (S67)) (r:Int) (w:World) (hr0_0:Kd.C k67 w A0_0 l0_0.length l0_0) (hc0_0:l0_0.length≤c0_0) (h:impl_BoundOf.f k l0_0=some r) :
   Calls Tryz.prog 13 #[.agg #[.slice A0_0 l0_0.length c0_0]] w fun e w'=>e = .returned (.int .i64 r)∧Below w.heap.size w w':=by
 have hu26:=Tryz.underlying26
 have HR0_0:=zk hr0_0
 have HC0_0:=zk hc0_0
 clear hr0_0 hc0_0
 have HB:=zk (Below.refl w.heap.size w)
 have H:((impl_IsValidProblem.f k l0_0).bind fun t13002=>(if t13002=true then ((some (([5,5,3,2]:List Int):List Int)).bind fun y13003=>((impl_VarsOfProblem.f k l0_0).bind fun t13006=>(if 0≤(t13006.size:Int) then (if (t13006.size:Int) < (y13003.length:Int) then (some (rd y13003 (t13006.size:Int))) else (none)) else (none)))) else (some (-1))))=some r:=h
 clear h
 replace H:=zo H
 obtain ⟨t13002,A20,H⟩:=H
 replace H:(if t13002=true then ((some (([5,5,3,2]:List Int):List Int)).bind fun y13003=>((impl_VarsOfProblem.f k l0_0).bind fun t13006=>(if 0≤(t13006.size:Int) then (if (t13006.size:Int) < (y13003.length:Int) then (some (rd y13003 (t13006.size:Int))) else (none)) else (none)))) else (some (-1)))=some r:=H
 have A2:=zk A20
 clear A20
 by_cases c3:t13002=true
 subst c3
 have H1:((some (([5,5,3,2]:List Int):List Int)).bind fun y13003=>((impl_VarsOfProblem.f k l0_0).bind fun t13006=>(if 0≤(t13006.size:Int) then (if (t13006.size:Int) < (y13003.length:Int) then (some (rd y13003 (t13006.size:Int))) else (none)) else (none))))=some r:=by rw [if_pos rfl] at H;exact H
 clear H
 have H:=H1
 clear H1
 obtain ⟨y13003,hy13003⟩:∃ y_:List Int,y_=(([5,5,3,2]:List Int)):=⟨_,rfl⟩
 replace H:((impl_VarsOfProblem.f k l0_0).bind fun t13006=>(if 0≤(t13006.size:Int) then (if (t13006.size:Int) < (y13003.length:Int) then (some (rd y13003 (t13006.size:Int))) else (none)) else (none)))=some r:=by first|(rw [hy13003];with_reducible exact H)|(have H2_:=(Option.bind_some _ _).symm.trans H;rw [hy13003];with_reducible exact H2_)|(have H2_:=(Option.bind_some _ _).symm.trans H;with_reducible exact H2_)|with_reducible exact H|(rw [hy13003];exact H)|exact H
 have Ny13003:=zk hy13003
 clear hy13003
 replace H:=zo H
 obtain ⟨t13006,A40,H⟩:=H
 replace H:(if 0≤(t13006.size:Int) then (if (t13006.size:Int) < (y13003.length:Int) then (some (rd y13003 (t13006.size:Int))) else (none)) else (none))=some r:=H
 have A4:=zk A40
 clear A40
 by_cases c5:0≤(t13006.size:Int)
 rw [if_pos c5] at H
 have c5b0:decide (0≤(t13006.size:Int))=true:=decide_eq_true c5
 have c5b1:decide (0≤t13006.size)=true:=decide_eq_true (by omega)
 clear c5
 by_cases c6:(t13006.size:Int) < (y13003.length:Int)
 rw [if_pos c6] at H
 have c6b0:decide ((t13006.size:Int) < (y13003.length:Int))=true:=decide_eq_true c6
 have c6b1:decide (t13006.size < y13003.length)=true:=decide_eq_true (Int.ofNat_lt.mp c6)
 clear c6
 rotate_left
 · rw [if_neg c6] at H
   exact absurd H (by simp)
 · rw [if_neg c5] at H
   exact absurd H (by simp)
 replace c3:=Bool.eq_false_iff.mpr c3
 subst c3
 have H1:(some (-1))=some r:=by rw [if_neg (show ¬ (false=true) by decide)] at H;exact H
 clear H
 have H:=H1
 clear H1
 rotate_left
 all_goals
  obtain rfl:=zi H
  go_enter Tryz.func13,Tryz.ntmps13
  go_wp2_with (first|((with_reducible refine gate_dst (N:=1) rfl ?_);refine zE (N:=1) (cs:=#[.slice A0_0 l0_0.length c0_0]) (t:=26) ?_;intro gb13001 hg w15 hbox hb;have n0_:=zk (below_step za3 hb);have n1_:=zk (hbox);have n2_:=zk (zs (w:=w) hg za3);have n3_:=zk (zs (w:=w) hg za3);clear HB;have HB:=n0_;have BK13001:=n1_;have GW13001:=n2_;have GE13001:=n3_;clear n0_ n1_ n2_ n3_;clear hb hbox hg;obtain ⟨hcz16_0,hfz16_0⟩:=blk1 BK13001.out)|((with_reducible refine gate_callee (f:=30) rfl ?_);refine goesL_ (some 4) rfl rfl Tryz.func30 (by kernel_rfl) rfl #[.agg #[.slice A0_0 l0_0.length c0_0]] rfl za4 ?_;(with_reducible refine (impl_IsValidProblem.calls k _ _ l0_0 _ _ ?side1 ?side2 A2.out).mono ?_);(case side1=>repeat (first|exact (Kd.C_below HR0_0.out HB.out)|(with_reducible refine Kd.C_alloc ?_ _)|(with_reducible refine Kd.C_drewN ?_ _)|(with_reducible refine Kd.C_drew ?_)));(case side2=>exact HC0_0.out);rintro e w17 ⟨rfl,hb⟩;refine ⟨_,rfl,?_⟩;have n0_:=zk (zb BK13001.out hb);have n1_:=zk (below_step za3 hb);clear BK13001;clear HB;have BK13001:=n0_;have HB:=n1_;clear n0_ n1_;(try clear hb);(try clear hb2);(try clear hk);(try clear hi))|((with_reducible refine gate_dst (N:=6) rfl ?_);refine Kd.R_lit (Kd.int .i64) _ 3 ?hg (N:=6) ?hd (xs:=([5,5,3,2]:List Int)) (inner:=[.int .i64 5,.int .i64 5,.int .i64 3,.int .i64 2]) (ok:=fun _=>True) (okp:=fun _=>True) ?hr ?hp (fun _ hk=>hk) trivial (Below.refl _ _) (Nat.le_refl _) (by simp) ?_;(case hd=>rfl);(case hg=>rfl);(case hr=>first|(go_simp;done)|(go_simp;rfl));(case hp=>exact (Reps.one (show Kd.M (Kd.int .i64) _ _ _ 5 [.int .i64 5] from rfl) (Reps.one (show Kd.M (Kd.int .i64) _ _ _ 5 [.int .i64 5] from rfl) (Reps.one (show Kd.M (Kd.int .i64) _ _ _ 3 [.int .i64 3] from rfl) (Reps.one (show Kd.M (Kd.int .i64) _ _ _ 2 [.int .i64 2] from rfl) (Reps.none _ _))))));intro v13004 w10 ho11 hb hg_ hnew_;clear hg_ hnew_;(first|rw [← Ny13003.out] at ho11|(simp only [Int.reduceToNat] at ho11;rw [← Ny13003.out] at ho11));have n0_:=zk (Kd.R_lower ho11 (below_size za3));have n1_:=zk (zb BK13001.out hb);have n2_:=zk (below_step za3 hb);clear BK13001;clear HB;have HO13005:=n0_;have BK13001:=n1_;have HB:=n2_;clear n0_ n1_ n2_;clear hb ho11;obtain ⟨hcz12_0,hfz12_0⟩:=blk1 BK13001.out)|((with_reducible refine gate_callee (f:=31) rfl ?_);refine goesL_ (some 8) rfl rfl Tryz.func31 (by kernel_rfl) rfl #[.agg #[.slice A0_0 l0_0.length c0_0]] rfl za4 ?_;(with_reducible refine (impl_VarsOfProblem.calls k _ _ l0_0 t13006 _ ?side1 ?side2 A4.out).mono ?_);(case side1=>repeat (first|exact (Kd.C_below HR0_0.out HB.out)|(with_reducible refine Kd.C_alloc ?_ _)|(with_reducible refine Kd.C_drewN ?_ _)|(with_reducible refine Kd.C_drew ?_)));(case side2=>exact HC0_0.out);rintro e w13 ⟨rfl,hb⟩;refine ⟨_,rfl,?_⟩;have n0_:=zk (Kd.R_below (za0 HO13005.out) hb);have n1_:=zk (zb BK13001.out hb);have n2_:=zk (below_step za3 hb);clear HO13005;clear BK13001;clear HB;have HO13005:=n0_;have BK13001:=n1_;have HB:=n2_;clear n0_ n1_ n2_;(try clear hb);(try clear hb2);(try clear hk);(try clear hi);obtain ⟨Ao14,co14,eo14⟩:=Kd.R_slice HO13005.out;subst eo14;have p13007:0≤((t13006.size:Int):Int):=of_decide_eq_true za8;have q13007:(t13006.size:Int) < (y13003.length:Int):=of_decide_eq_true za8;obtain ⟨ad13007,e13007,hx13007_0⟩:=Kd.at_int (Kd.R_reads' HO13005.out).2.2 (t13006.size:Int) p13007 q13007;(try simp only [Int.toNat_natCast] at hx13007_0);cases e13007;replace p13007:=eq_true p13007;replace q13007:=eq_true q13007))
  go_ret
  exact ⟨za6,za3⟩
end Go.Proofs.YtffjfdoghofkdaaGreat.A
