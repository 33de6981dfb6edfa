/- FnMoves: what its proof needs, put together by this session's program wip/merge.py out of the texts that wip/xp.py printed and of this session's own. -/
import Derived.Test.YtgajchjnljekgaaQFnMoves8
import Derived.Test.YtgajchjnljekgaaRows
import Derived.WalkKit
import Derived.ProofKit
import Derived.OpenShut
import Derived.ShutString
import Derived.ChangeOld
import Derived.Below
import Derived.SizedLaws
import Derived.Lib.SmallJoins
set_option linter.unusedVariables false
set_option linter.unusedSimpArgs false
set_option linter.unusedSectionVars false
set_option maxHeartbeats 8000000
set_option maxRecDepth 100000
namespace Go.Proofs.Ytgajchjnljekgaa.F
open Go Go.RowKit YtgajchjnljekgaaW.PrintWords Ytgajchjnljekgaa.Pl Ytgajchjnljekgaa.A Ytgajchjnljekgaa.Ext
theorem l1PickInt_ok {b:List Int} {i:Int} (h:Int) (l:List Int) (hc:Cu b i) (hn:1≤l.length) (hn':l.length≤256):∃ s i' h',spec_l1PickInt.f b i h l=some (s,i',h')∧s ∈ l∧Cu b i':=by
 obtain ⟨x,i',h',e,h0,h1,hc'⟩:=l1Below_ok h (l.length:Int) hc (by omega) (by omega)
 unfold spec_l1PickInt.f
 rw [e]
 simp only [Option.bind_some]
 rw [if_pos h0,if_pos h1]
 refine ⟨_,_,_,rfl,?_,hc'⟩
 have hx:x.toNat < l.length:=by omega
 unfold rd
 rw [List.getD_eq_getElem?_getD,List.getElem?_eq_getElem hx]
 exact List.getElem_mem hx
theorem bd_nil:Bd ([]:List S58) 0:=⟨fun d=>by cases d <;> simp [cntN],0,fun _ _=>rfl⟩
theorem bd_cons {y:S58} {ys:List S58} {c c':Nat} (h:Bd y.f2 c) (h':Bd ys c'):Bd (y :: ys) (1+c+c'):=by
 obtain ⟨b1,N1,n1⟩:=h
 obtain ⟨b2,N2,n2⟩:=h'
 refine ⟨fun d=>?_,max (N1+1) N2,fun d hd=>?_⟩
 ·cases d with
  | zero=>simp [cntN]
  | succ d =>
   have h1:=b1 d
   have h2:=b2 (d+1)
   simp only [cntN,List.map_cons,List.sum_cons] at h2 ⊢
   omega
 ·obtain ⟨d',rfl⟩:∃ d',d=d'+1:=⟨d - 1,by omega⟩
  rw [List.all_cons,n2 (d'+1) (by omega),Bool.and_true]
  exact n1 d' (by omega)
def cd:Nat→Nat
 | 0=>0
 | d+1=>2+2 * cd d
theorem cd_pow (n:Nat):cd n+2=2 ^ (n+1):=by
 induction n with
 | zero=>rfl
 | succ n ih=>rw [Nat.pow_succ,← ih];simp only [cd];omega
def RxD (n:Nat) (x:S58):Prop:=Sm x∧∃ c,c≤cd n∧Bd x.f2 c
theorem rxD_leaf (n:Nat) (a:Int) (s:ByteArray):RxD n ⟨a,s,[]⟩:=⟨Sm.mk a s [] (by simp) (fun x hx=>by cases hx) ⟨0,by omega,bd_nil⟩,0,Nat.zero_le _,bd_nil⟩
theorem cd_small {n:Nat} (hn:n≤18):cd n≤1048576:=by
 have h:=cd_pow n
 have h2:2 ^ (n+1)≤2 ^ 19:=Nat.pow_le_pow_right (by omega) (by omega)
 have h3:(2:Nat) ^ 19=524288:=by decide
 omega
theorem rxD_one {n:Nat} {y:S58} (hn:n≤17) (a:Int) (s:ByteArray) (hy:RxD n y):RxD (n+1) ⟨a,s,[y]⟩:=by
 obtain ⟨h1,c,hc,hb⟩:=hy
 have hd:=bd_cons hb bd_nil
 have hs:=cd_small (n:=n+1) (by omega)
 have hq:cd (n+1)=2+2 * cd n:=rfl
 refine ⟨Sm.mk a s [y] (by simp) (fun x hx=>?_) ⟨_,by omega,hd⟩,_,by omega,hd⟩
 obtain rfl:=List.mem_singleton.1 hx
 exact h1
theorem rxD_two {n:Nat} {y z:S58} (hn:n≤17) (a:Int) (s:ByteArray) (hy:RxD n y) (hz:RxD n z):RxD (n+1) ⟨a,s,[y,z]⟩:=by
 obtain ⟨h1,c,hc,hb⟩:=hy
 obtain ⟨h2,c',hc',hb'⟩:=hz
 have hd:=bd_cons hb (bd_cons hb' bd_nil)
 have hs:=cd_small (n:=n+1) (by omega)
 have hq:cd (n+1)=2+2 * cd n:=rfl
 refine ⟨Sm.mk a s [y,z] (by simp) (fun x hx=>?_) ⟨_,by omega,hd⟩,_,by omega,hd⟩
 rcases List.mem_cons.1 hx with rfl|hx
 ·exact h1
 ·obtain rfl:=List.mem_singleton.1 hx
  exact h2
def DrawsR (b:List Int) (n:Nat) (g:Nat→Option (Int × ByteArray × List S58 × Int × Int)):Prop:=∃ a s l i' h',Evt g (a,s,l,i',h')∧RxD n ⟨a,s,l⟩∧Cu b i'
theorem l3Draw_ok (b:List Int):∀ n:Nat,n≤17→∀ i h:Int,Cu b i→DrawsR b n (fun k=>spec_l3Draw.f k b i h (n:Int)):=by
 intro n
 induction n with
 | zero =>
  intro hn i h hc
  have hj:DrawsR b 0 (fun k=>spec_l3Draw.j0 k ((0:Nat):Int) true b i h):=by
   obtain ⟨q,i1,h1,e1,q0,q1,c1⟩:=l1Below_ok h 8 hc (by omega) (by omega)
   by_cases z0:q=0
   ·refine ⟨_,_,_,i1,h1,Evt.step ?_,rxD_leaf _ 2 (⟨#[]⟩:ByteArray),c1⟩
    simp only [spec_l3Draw.j0]
    exact Evt.pos trivial (Evt.bindc e1 (Evt.pos z0 (Evt.ret _)))
   by_cases z1:q=1
   ·refine ⟨_,_,_,i1,h1,Evt.step ?_,rxD_leaf _ 4 (⟨#[]⟩:ByteArray),c1⟩
    simp only [spec_l3Draw.j0]
    exact Evt.pos trivial (Evt.bindc e1 (Evt.neg z0 (Evt.pos z1 (Evt.ret _))))
   by_cases z2:q=2
   ·refine ⟨_,_,_,i1,h1,Evt.step ?_,rxD_leaf _ 1 (⟨#[]⟩:ByteArray),c1⟩
    simp only [spec_l3Draw.j0]
    exact Evt.pos trivial (Evt.bindc e1 (Evt.neg z0 (Evt.neg z1 (Evt.pos z2 (Evt.ret _)))))
   obtain ⟨s,i2,h2,e2,_,c2⟩:=l1Pick_ok h1 [(⟨#[97]⟩:ByteArray),(⟨#[97]⟩:ByteArray),(⟨#[98]⟩:ByteArray),(⟨#[98]⟩:ByteArray),(⟨#[99]⟩:ByteArray)] c1 (by decide) (by decide)
   refine ⟨_,_,_,i2,h2,Evt.step ?_,rxD_leaf _ 3 s,c2⟩
   simp only [spec_l3Draw.j0]
   exact Evt.pos trivial (Evt.bindc e1 (Evt.neg z0 (Evt.neg z1 (Evt.neg z2 (Evt.bindc e2 (Evt.ret _))))))
  obtain ⟨a,s,l,i',h',e,h1,h2⟩:=hj
  refine ⟨a,s,l,i',h',Evt.step ?_,h1,h2⟩
  simp only [spec_l3Draw.f]
  exact Evt.pos (by omega) e
 | succ n ih =>
  intro hn i h hc
  have hw:wrap64 (((n+1:Nat):Int) - 1)=(n:Int):=by rw [w64 (by omega) (by omega)];omega
  have one:∀ (kd:Int) {i h:Int},Cu b i→DrawsR b (n+1) (fun k=>(spec_l3Draw.f k b i h (n:Int)).bind fun q=>some (kd,(⟨#[]⟩:ByteArray),[(⟨q.1,q.2.1,q.2.2.1⟩:S58)],q.2.2.2.1,q.2.2.2.2)):=by
   intro kd i h hc
   obtain ⟨a,s,l,i',h',e,g1,g2⟩:=ih (by omega) i h hc
   exact ⟨_,_,_,_,_,Evt.bind e (Evt.ret _),rxD_one (by omega) kd _ g1,g2⟩
  have two:∀ (kd:Int) {i h:Int},Cu b i→DrawsR b (n+1) (fun k=>(spec_l3Draw.f k b i h (n:Int)).bind fun p=>(spec_l3Draw.f k b p.2.2.2.1 p.2.2.2.2 (n:Int)).bind fun q=>some (kd,(⟨#[]⟩:ByteArray),[(⟨p.1,p.2.1,p.2.2.1⟩:S58),(⟨q.1,q.2.1,q.2.2.1⟩:S58)],q.2.2.2.1,q.2.2.2.2)):=by
   intro kd i h hc
   obtain ⟨a,s,l,i',h',e,g1,g2⟩:=ih (by omega) i h hc
   obtain ⟨a2,s2,l2,i2,h2,e2,g3,g4⟩:=ih (by omega) i' h' g2
   exact ⟨_,_,_,_,_,Evt.bind e (Evt.bind e2 (Evt.ret _)),rxD_two (by omega) kd _ g1 g3,g4⟩
  have leaf:∀ {i h:Int},Cu b i→DrawsR b (n+1) (fun k=>spec_l3Draw.j0 k ((n+1:Nat):Int) true b i h):=by
   intro i h hc
   obtain ⟨q,i1,h1,e1,q0,q1,c1⟩:=l1Below_ok h 8 hc (by omega) (by omega)
   by_cases z0:q=0
   ·refine ⟨_,_,_,i1,h1,Evt.step ?_,rxD_leaf _ 2 (⟨#[]⟩:ByteArray),c1⟩
    simp only [spec_l3Draw.j0]
    exact Evt.pos trivial (Evt.bindc e1 (Evt.pos z0 (Evt.ret _)))
   by_cases z1:q=1
   ·refine ⟨_,_,_,i1,h1,Evt.step ?_,rxD_leaf _ 4 (⟨#[]⟩:ByteArray),c1⟩
    simp only [spec_l3Draw.j0]
    exact Evt.pos trivial (Evt.bindc e1 (Evt.neg z0 (Evt.pos z1 (Evt.ret _))))
   by_cases z2:q=2
   ·refine ⟨_,_,_,i1,h1,Evt.step ?_,rxD_leaf _ 1 (⟨#[]⟩:ByteArray),c1⟩
    simp only [spec_l3Draw.j0]
    exact Evt.pos trivial (Evt.bindc e1 (Evt.neg z0 (Evt.neg z1 (Evt.pos z2 (Evt.ret _)))))
   obtain ⟨s,i2,h2,e2,_,c2⟩:=l1Pick_ok h1 [(⟨#[97]⟩:ByteArray),(⟨#[97]⟩:ByteArray),(⟨#[98]⟩:ByteArray),(⟨#[98]⟩:ByteArray),(⟨#[99]⟩:ByteArray)] c1 (by decide) (by decide)
   refine ⟨_,_,_,i2,h2,Evt.step ?_,rxD_leaf _ 3 s,c2⟩
   simp only [spec_l3Draw.j0]
   exact Evt.pos trivial (Evt.bindc e1 (Evt.neg z0 (Evt.neg z1 (Evt.neg z2 (Evt.bindc e2 (Evt.ret _))))))
  have stp:∀ {g:Nat→Option (Int × ByteArray × List S58 × Int × Int)},DrawsR b (n+1) (fun k=>g (k+1))→DrawsR b (n+1) g:=by
   rintro g ⟨a,s,l,i',h',e,g1,g2⟩
   exact ⟨a,s,l,i',h',Evt.step e,g1,g2⟩
  have pos:∀ {c:Prop} [Decidable c] {t e:Nat→Option (Int × ByteArray × List S58 × Int × Int)},c→DrawsR b (n+1) t→DrawsR b (n+1) (fun k=>if c then t k else e k):=by
   rintro c _ t e hcc ⟨a,s,l,i',h',e,g1,g2⟩
   exact ⟨a,s,l,i',h',Evt.pos hcc e,g1,g2⟩
  have neg:∀ {c:Prop} [Decidable c] {t e:Nat→Option (Int × ByteArray × List S58 × Int × Int)},¬ c→DrawsR b (n+1) e→DrawsR b (n+1) (fun k=>if c then t k else e k):=by
   rintro c _ t e hcc ⟨a,s,l,i',h',e,g1,g2⟩
   exact ⟨a,s,l,i',h',Evt.neg hcc e,g1,g2⟩
  have j2:∀ (x:Bool) {i h:Int},Cu b i→DrawsR b (n+1) (fun k=>spec_l3Draw.j2 k ((n+1:Nat):Int) x b i h):=by
   intro x i h hc
   refine stp ?_
   simp only [spec_l3Draw.j2,hw]
   cases x with
   | true=>exact pos rfl (two 6 hc)
   | false=>exact neg (by decide) (two 5 hc)
  have j1:∀ (q:Int) (x:Bool) {i h:Int},Cu b i→DrawsR b (n+1) (fun k=>spec_l3Draw.j1 k ((n+1:Nat):Int) q x b i h):=by
   intro q x i h hc
   refine stp ?_
   simp only [spec_l3Draw.j1,hw]
   cases x with
   | true=>exact pos rfl (one 8 hc)
   | false =>
    refine neg (by decide) ?_
    by_cases z3:q=3
    ·exact pos z3 (one 9 hc)
    refine neg z3 ?_
    by_cases z4:q=4
    ·exact pos z4 (two 7 hc)
    refine neg z4 ?_
    by_cases z5:q=5
    ·exact pos z5 (j2 _ hc)
    ·exact neg z5 (j2 _ hc)
  have j0:∀ (x:Bool) {i h:Int},Cu b i→DrawsR b (n+1) (fun k=>spec_l3Draw.j0 k ((n+1:Nat):Int) x b i h):=by
   intro x i h hc
   cases x with
   | true=>exact leaf hc
   | false =>
    obtain ⟨q,i1,h1,e1,q0,q1,c1⟩:=l1Below_ok h 10 hc (by omega) (by omega)
    refine stp ?_
    simp only [spec_l3Draw.j0]
    refine neg (by decide) ?_
    have key:DrawsR b (n+1) (fun k=>if q=0 then spec_l3Draw.j1 k ((n+1:Nat):Int) q (q == 0) b i1 h1 else if q=1 then spec_l3Draw.j1 k ((n+1:Nat):Int) q (q == 1) b i1 h1 else spec_l3Draw.j1 k ((n+1:Nat):Int) q (q == 2) b i1 h1):=by
     by_cases z0:q=0
     ·exact pos z0 (j1 _ _ c1)
     refine neg z0 ?_
     by_cases z1:q=1
     ·exact pos z1 (j1 _ _ c1)
     ·exact neg z1 (j1 _ _ c1)
    obtain ⟨a,s,l,i',h',e,g1,g2⟩:=key
    exact ⟨a,s,l,i',h',Evt.bindc e1 e,g1,g2⟩
  refine stp ?_
  simp only [spec_l3Draw.f]
  by_cases z:((n+1:Nat):Int) < 2
  ·exact pos z (j0 true hc)
  refine neg z ?_
  obtain ⟨o,i1,h1,e1,c1⟩:=l1Once_ok h 5 hc (by omega) (by omega)
  obtain ⟨a,s,l,i',h',e,g1,g2⟩:=j0 o (h:=h1) c1
  exact ⟨a,s,l,i',h',Evt.bindc e1 e,g1,g2⟩
def DrawsC (b:List Int) (g:Nat→Option (Int × ByteArray × ByteArray × Int × ByteArray × List S58 × List Int × Int × Int × Int)):Prop :=
 ∃ a p q d s l m n i' h',Evt g (a,p,q,d,s,l,m,n,i',h')∧(RxD 4 ⟨d,s,l⟩∧m.length≤4∧p.size≤13∧q.size≤13)∧Cu b i'
theorem rxD_up {n m:Nat} (h:n≤m) {x:S58} (hx:RxD n x):RxD m x:=by
 obtain ⟨h1,c,h2,h3⟩:=hx
 refine ⟨h1,c,?_,h3⟩
 have:cd n≤cd m:=by
  have e1:=cd_pow n
  have e2:=cd_pow m
  have e3:2 ^ (n+1)≤2 ^ (m+1):=Nat.pow_le_pow_right (by omega) (by omega)
  omega
 omega
theorem DrawsC.step {b:List Int} {g:Nat→Option (Int × ByteArray × ByteArray × Int × ByteArray × List S58 × List Int × Int × Int × Int)} (h:DrawsC b (fun k=>g (k+1))):DrawsC b g:=by
 obtain ⟨a,p,q,d,s,l,m,n,i',h',e,g1,g2⟩:=h
 exact ⟨a,p,q,d,s,l,m,n,i',h',Evt.step e,g1,g2⟩
theorem DrawsC.pos {b:List Int} {c:Prop} [Decidable c] {t e:Nat→Option (Int × ByteArray × ByteArray × Int × ByteArray × List S58 × List Int × Int × Int × Int)} (hc:c) (h:DrawsC b t):DrawsC b (fun k=>if c then t k else e k):=by
 obtain ⟨a,p,q,d,s,l,m,n,i',h',e,g1,g2⟩:=h
 exact ⟨a,p,q,d,s,l,m,n,i',h',Evt.pos hc e,g1,g2⟩
theorem DrawsC.neg {b:List Int} {c:Prop} [Decidable c] {t e:Nat→Option (Int × ByteArray × ByteArray × Int × ByteArray × List S58 × List Int × Int × Int × Int)} (hc:¬ c) (h:DrawsC b e):DrawsC b (fun k=>if c then t k else e k):=by
 obtain ⟨a,p,q,d,s,l,m,n,i',h',e,g1,g2⟩:=h
 exact ⟨a,p,q,d,s,l,m,n,i',h',Evt.neg hc e,g1,g2⟩
theorem DrawsC.bind {b:List Int} {α:Type} {g:Nat→Option α} {f:Nat→α→Option (Int × ByteArray × ByteArray × Int × ByteArray × List S58 × List Int × Int × Int × Int)} {x:α} (hg:Evt g x) (h:DrawsC b (fun k=>f k x)):DrawsC b (fun k=>(g k).bind (f k)):=by
 obtain ⟨a,p,q,d,s,l,m,n,i',h',e,g1,g2⟩:=h
 exact ⟨a,p,q,d,s,l,m,n,i',h',Evt.bind hg e,g1,g2⟩
theorem DrawsC.bindc {b:List Int} {α:Type} {g:Option α} {f:Nat→α→Option (Int × ByteArray × ByteArray × Int × ByteArray × List S58 × List Int × Int × Int × Int)} {x:α} (hg:g=some x) (h:DrawsC b (fun k=>f k x)):DrawsC b (fun k=>g.bind (f k)):=DrawsC.bind (Evt.const hg) h
theorem l9Draw_ok {b:List Int} {i:Int} (h:Int) (vars:ByteArray) (hc:Cu b i) (h1:1≤vars.size) (h3:vars.size≤3):DrawsC b (fun k=>spec_l9Draw.f k b i h vars):=by
 have two:∀ (kd:Int) (n:Nat),n≤4→∀ {i h:Int},Cu b i→DrawsC b (fun k=>(spec_l8Draw.f k b i h (n:Int) vars).bind fun p=>(spec_l8Draw.f k b p.2.1 p.2.2 (n:Int) vars).bind fun q=>some (kd,p.1,q.1,0,(⟨#[]⟩:ByteArray),([]:List S58),([]:List Int),0,q.2.1,q.2.2)):=by
  intro kd n hn i h hc
  obtain ⟨s,i1,h1,e1,s1,c1⟩:=l8Draw_ok h n vars hc (by omega) h3
  obtain ⟨t,i2,h2,e2,s2,c2⟩:=l8Draw_ok h1 n vars c1 (by omega) h3
  exact ⟨_,_,_,_,_,_,_,_,_,_,Evt.bind e1 (Evt.bind e2 (Evt.ret _)),⟨rxD_leaf _ _ _,by simp,by show s.size≤13;omega,by show t.size≤13;omega⟩,c2⟩
 have l0:∀ d j:Nat,j+d=3→∀ {i h:Int},Cu b i→∀ (m:List Int) (n:Int),m.length=j→DrawsC b (fun k=>spec_l9Draw.l0 k vars (j:Int) b i h 5 (⟨#[]⟩:ByteArray) (⟨#[]⟩:ByteArray) 0 (⟨#[]⟩:ByteArray) m n):=by
  intro d
  induction d with
  | zero =>
   intro j hj i h hc m n hm
   refine DrawsC.step ?_
   simp only [spec_l9Draw.l0]
   exact DrawsC.neg (by omega) ⟨_,_,_,_,_,_,_,_,_,_,Evt.ret _,⟨rxD_leaf _ _ _,by show m.length≤4;omega,by decide,by decide⟩,hc⟩
  | succ d ih =>
   intro j hj i h hc m n hm
   obtain ⟨q,i1,h1,e1,_,c1⟩:=l1PickInt_ok h [1,(-1),0,2] hc (by decide) (by decide)
   refine DrawsC.step ?_
   simp only [spec_l9Draw.l0]
   rw [w64s (by omega)]
   have hb:∀ x:Bool,∃ y,spec_l1Bit.f x=some y:=by intro x;cases x <;> simp [spec_l1Bit.f]
   obtain ⟨y,hy⟩:=hb (decide (((cntB (bytesOf vars) (bt (⟨#[88,89,90]⟩:ByteArray) (j:Int)):Nat):Int) > 0))
   exact DrawsC.pos (by omega) (DrawsC.pos (by omega) (DrawsC.bind (spec_CountByte_ev _ _ (by omega)) (DrawsC.bindc hy (DrawsC.bindc e1 (DrawsC.pos (show m.length < 17592186044416 by omega) (ih (j+1) (by omega) c1 _ n (by simp;omega)))))))
 have j1:∀ (q:Int) (x:Bool) {i h:Int},Cu b i→DrawsC b (fun k=>spec_l9Draw.j1 k vars q x b i h):=by
  intro q x i h hc
  refine DrawsC.step ?_
  simp only [spec_l9Draw.j1]
  cases x with
  | true =>
   obtain ⟨a,s,l,i',h',e,g1,g2⟩:=l3Draw_ok b 3 (by omega) i h hc
   refine DrawsC.pos rfl (DrawsC.pos (by omega) (DrawsC.pos (by omega) ⟨_,_,_,_,_,_,_,_,_,_,Evt.bind e (Evt.ret _),⟨rxD_up (by omega) g1,by simp,?_,by decide⟩,g2⟩))
   show (vars.extract 0 1).size≤13
   rw [ByteArray.size_extract]
   omega
  | false =>
   refine DrawsC.neg (by decide) ?_
   by_cases z6:q=6
   ·have hw:wrap64 ((vars.size:Int) - 1)=(vars.size:Int) - 1:=w64 (by omega) (by omega)
    rw [hw]
    obtain ⟨a,s,l,i',h',e,g1,g2⟩:=l3Draw_ok b 3 (by omega) i h hc
    refine DrawsC.pos z6 (DrawsC.pos (by omega) (DrawsC.pos (by omega) ⟨_,_,_,_,_,_,_,_,_,_,Evt.bind e (Evt.ret _),⟨rxD_up (by omega) g1,by simp,?_,by decide⟩,g2⟩))
    show (vars.extract _ _).size≤13
    rw [ByteArray.size_extract]
    omega
   ·obtain ⟨n,i1,h1,e1,_,c1⟩:=l1PickInt_ok h [0,1,3,(-1)] hc (by decide) (by decide)
    exact DrawsC.neg z6 (DrawsC.bindc e1 (l0 3 0 (by omega) c1 [] n rfl))
 have j0:∀ (q:Int) (x:Bool) {i h:Int},Cu b i→DrawsC b (fun k=>spec_l9Draw.j0 k vars q x b i h):=by
  intro q x i h hc
  refine DrawsC.step ?_
  simp only [spec_l9Draw.j0]
  cases x with
  | true=>exact DrawsC.pos rfl (two 1 4 (by omega) hc)
  | false =>
   refine DrawsC.neg (by decide) ?_
   by_cases z3:q=3
   ·exact DrawsC.pos z3 (two 2 3 (by omega) hc)
   refine DrawsC.neg z3 ?_
   by_cases z4:q=4
   ·exact DrawsC.pos z4 (j1 _ _ hc)
   ·exact DrawsC.neg z4 (j1 _ _ hc)
 obtain ⟨q,i1,h1,e1,_,_,c1⟩:=l1Below_ok h 8 hc (by omega) (by omega)
 simp only [spec_l9Draw.f]
 refine DrawsC.bindc e1 ?_
 by_cases z0:q=0
 ·exact DrawsC.pos z0 (j0 _ _ c1)
 refine DrawsC.neg z0 ?_
 by_cases z1:q=1
 ·exact DrawsC.pos z1 (j0 _ _ c1)
 ·exact DrawsC.neg z1 (j0 _ _ c1)
theorem l9Bent_ok {b:List Int} {i:Int} (h:Int) (hc:Cu b i):∃ a p q d s l m n i' h',Evt (fun k=>spec_l9Bent.f k b i h) (a,p,q,d,s,l,m,n,i',h')∧(RxD 4 ⟨d,s,l⟩∧m.length≤5∧p.size≤13∧q.size≤13)∧Cu b i':=by
 obtain ⟨a,p,q,d,s,l,m,n,i1,h1,e1,⟨g1,g2,g3,g4⟩,c1⟩:=l9Draw_ok h (⟨#[88,89,90]⟩:ByteArray) hc (by decide) (by decide)
 obtain ⟨o,i2,h2,e2,_,_,c2⟩:=l1Below_ok h1 10 c1 (by omega) (by omega)
 simp only [spec_l9Bent.f]
 by_cases z0:o=0
 ·obtain ⟨u,i3,h3,e3,_,_,c3⟩:=l1Below_ok h2 7 c2 (by omega) (by omega)
  exact ⟨_,_,_,_,_,_,_,_,_,_,Evt.bind e1 (Evt.bindc e2 (Evt.pos z0 (Evt.bindc e3 (Evt.ret _)))),⟨g1,by show m.length≤5;omega,g3,g4⟩,c3⟩
 by_cases z1:o=1
 ·obtain ⟨u,i3,h3,e3,s3,c3⟩:=l8Any_ok h2 c2
  exact ⟨_,_,_,_,_,_,_,_,_,_,Evt.bind e1 (Evt.bindc e2 (Evt.neg z0 (Evt.pos z1 (Evt.bind e3 (Evt.ret _))))),⟨g1,by show m.length≤5;omega,s3,g4⟩,c3⟩
 by_cases z2:o=2
 ·obtain ⟨u,i3,h3,e3,s3,c3⟩:=l1PickInt_ok h2 [99,100,(-99)] c2 (by decide) (by decide)
  exact ⟨_,_,_,_,_,_,_,_,_,_,Evt.bind e1 (Evt.bindc e2 (Evt.neg z0 (Evt.neg z1 (Evt.pos z2 (Evt.bindc e3 (Evt.ret _)))))),⟨g1,by show m.length≤5;omega,g3,g4⟩,c3⟩
 by_cases z3:o=3
 ·obtain ⟨u,i3,h3,e3,s3,c3⟩:=l1PickInt_ok h2 [0,9,10] c2 (by decide) (by decide)
  exact ⟨_,_,_,_,_,_,_,_,_,_,Evt.bind e1 (Evt.bindc e2 (Evt.neg z0 (Evt.neg z1 (Evt.neg z2 (Evt.pos z3 (Evt.bindc e3 (Evt.pos (show m.length < 17592186044416 by omega) (Evt.ret _)))))))),⟨g1,by rw [List.length_append];simp;omega,g3,g4⟩,c3⟩
 ·exact ⟨_,_,_,_,_,_,_,_,_,_,Evt.bind e1 (Evt.bindc e2 (Evt.neg z0 (Evt.neg z1 (Evt.neg z2 (Evt.neg z3 (Evt.ret _)))))),⟨g1,by show m.length≤5;omega,g3,g4⟩,c2⟩
theorem csSm_of {a:Int} {p q:ByteArray} {d:Int} {s:ByteArray} {l:List S58} {m:List Int} (n:Int) (h:RxD 4 ⟨d,s,l⟩) (hm:m.length≤5) (hp:p.size≤13) (hq:q.size≤13):CsSm ⟨a,p,q,⟨d,s,l⟩,m,n⟩ :=
 ⟨h.1,by show m.length≤1048576;omega,by show p.size≤1048576;omega,by show q.size≤1048576;omega⟩
theorem l10Draw_ok {b:List Int} {i:Int} (h:Int) (most:Nat) (hc:Cu b i) (h1:1≤most) (h2:most≤200):∃ ys i' h',Evt (fun k=>spec_l10Draw.f k b i h (most:Int)) (ys,i',h')∧1≤ys.length∧ys.length≤most∧(∀ y ∈ ys,CsSm y)∧Cu b i':=by
 obtain ⟨v,i1,h1',e1,hv,c1⟩:=l1Pick_ok h [(⟨#[88]⟩:ByteArray),(⟨#[88,89]⟩:ByteArray),(⟨#[88,89]⟩:ByteArray),(⟨#[88,89,90]⟩:ByteArray)] hc (by decide) (by decide)
 have hv1:1≤v.size∧v.size≤3:=by
  simp only [List.mem_cons,List.not_mem_nil,or_false] at hv
  rcases hv with rfl|rfl|rfl|rfl <;> decide
 obtain ⟨n,i2,h2',e2,n0,n1,c2⟩:=l1Below_ok h1' (most:Int) c1 (by omega) (by omega)
 obtain ⟨n,rfl⟩:=Int.eq_ofNat_of_zero_le n0
 have hw:wrap64 (1+(n:Int))=((n+1:Nat):Int):=by rw [w64 (by omega) (by omega)];omega
 have hh:∀ d j:Nat,j+d=n+1→∀ {i h:Int} (ys:List S61),Cu b i→ys.length=j→(∀ y ∈ ys,CsSm y)→∃ zs i' h',Evt (fun k=>spec_l10Draw.l0 k v ((n+1:Nat):Int) (j:Int) b i h ys) (zs,i',h')∧zs.length=n+1∧(∀ y ∈ zs,CsSm y)∧Cu b i':=by
  intro d
  induction d with
  | zero =>
   intro j hj i h ys hc hl hy
   refine ⟨ys,i,h,Evt.step ?_,by omega,hy,hc⟩
   simp only [spec_l10Draw.l0]
   exact Evt.neg (by omega) (Evt.ret _)
  | succ d ih =>
   intro j hj i h ys hc hl hy
   obtain ⟨a,p,q,d',s,l,m,n',i1,h1,e1,⟨g1,g2,g3,g4⟩,c1⟩:=l9Draw_ok h v hc hv1.1 hv1.2
   obtain ⟨zs,i2,h2,e2,k1,k2,k3⟩:=ih (j+1) (by omega) (h:=h1) (ys ++ [⟨a,p,q,⟨d',s,l⟩,m,n'⟩]) c1 (by simp;omega) (by
    intro y hm
    rcases List.mem_append.1 hm with hm|hm
    ·exact hy y hm
    ·obtain rfl:=List.mem_singleton.1 hm
     exact csSm_of n' g1 (by omega) g3 g4)
   refine ⟨zs,i2,h2,Evt.step ?_,k1,k2,k3⟩
   simp only [spec_l10Draw.l0]
   rw [w64s (by omega)]
   exact Evt.pos (by omega) (Evt.bind e1 (Evt.pos (by omega) e2))
 obtain ⟨zs,i3,h3,e3,k1,k2,k3⟩:=hh (n+1) 0 (by omega) (h:=h2') [] c2 rfl (fun y hy=>by cases hy)
 refine ⟨zs,i3,h3,?_,by omega,by omega,k2,k3⟩
 simp only [spec_l10Draw.f]
 exact Evt.bindc e1 (Evt.bindc e2 (by rw [hw];exact e3))
theorem l10Bent_ok {b:List Int} {i:Int} (h:Int) (hc:Cu b i):∃ ys i' h',Evt (fun k=>spec_l10Bent.f k b i h) (ys,i',h')∧1≤ys.length∧ys.length≤7∧(∀ y ∈ ys,CsSm y)∧Cu b i':=by
 obtain ⟨ys,i1,h1,e1,l1,l2,hy,c1⟩:=l10Draw_ok h 3 hc (by omega) (by omega)
 obtain ⟨o,i2,h2,e2,_,_,c2⟩:=l1Below_ok h1 12 c1 (by omega) (by omega)
 simp only [spec_l10Bent.f]
 by_cases z0:o=0
 ·obtain ⟨a,p,q,d,s,l,m,n,i3,h3,e3,⟨g1,g2,g3,g4⟩,c3⟩:=l9Bent_ok h2 c2
  refine ⟨_,_,_,Evt.bind e1 (Evt.bindc e2 (Evt.pos z0 (Evt.bind e3 (Evt.pos (by show 0 < (ys.length:Int);omega) (Evt.ret _))))),?_,?_,?_,c3⟩
  ·rw [List.length_set];exact l1
  ·rw [List.length_set];show ys.length≤7;omega
  ·intro y hm
   rcases List.mem_or_eq_of_mem_set hm with hm|rfl
   ·exact hy y hm
   ·exact csSm_of n g1 (by omega) g3 g4
 by_cases z1:o=1
 ·have hh:∀ d j:Nat,j+d=7→∀ {i h:Int} (ys:List S61),Cu b i→ys.length=j→(∀ y ∈ ys,CsSm y)→∃ zs i' h',Evt (fun k=>spec_l10Bent.l0 k b i h ys) (zs,i',h')∧zs.length=7∧(∀ y ∈ zs,CsSm y)∧Cu b i':=by
   intro d
   induction d with
   | zero =>
    intro j hj i h ys hc hl hy
    refine ⟨ys,i,h,Evt.step ?_,by omega,hy,hc⟩
    simp only [spec_l10Bent.l0]
    exact Evt.neg (by omega) (Evt.ret _)
   | succ d ih =>
    intro j hj i h ys hc hl hy
    obtain ⟨a,p,q,d',s,l,m,n',i1,h1,e1,⟨g1,g2,g3,g4⟩,c1⟩:=l9Draw_ok h (⟨#[88]⟩:ByteArray) hc (by decide) (by decide)
    obtain ⟨zs,i2,h2,e2,k1,k2,k3⟩:=ih (j+1) (by omega) (h:=h1) (ys ++ [⟨a,p,q,⟨d',s,l⟩,m,n'⟩]) c1 (by simp;omega) (by
     intro y hm
     rcases List.mem_append.1 hm with hm|hm
     ·exact hy y hm
     ·obtain rfl:=List.mem_singleton.1 hm
      exact csSm_of n' g1 (by omega) g3 g4)
    refine ⟨zs,i2,h2,Evt.step ?_,k1,k2,k3⟩
    simp only [spec_l10Bent.l0]
    exact Evt.pos (by omega) (Evt.bind e1 (Evt.pos (by omega) e2))
  obtain ⟨zs,i3,h3,e3,k1,k2,k3⟩:=hh (7 - ys.length) ys.length (by omega) (h:=h2) ys c2 rfl hy
  exact ⟨zs,i3,h3,Evt.bind e1 (Evt.bindc e2 (Evt.neg z0 (Evt.pos z1 e3))),by omega,by omega,k2,k3⟩
 ·exact ⟨ys,i2,h2,Evt.bind e1 (Evt.bindc e2 (Evt.neg z0 (Evt.neg z1 (Evt.ret _)))),l1,by omega,hy,c2⟩
end Go.Proofs.Ytgajchjnljekgaa.F
namespace Go.Proofs.Ytgajchjnljekgaa.F
open Go.RowKit YtgajchjnljekgaaW.PrintWords Ytgajchjnljekgaa.Pl Ytgajchjnljekgaa.A Ytgajchjnljekgaa.Ext
def arN (a:Int):Nat:=if a=5∨a=6∨a=7 then 2 else if a=8∨a=9 then 1 else 0
theorem arN_le (a:Int):arN a≤2:=by
 unfold arN
 split
 ·omega
 ·split <;> omega
def kOk (a:Int) (b:ByteArray) (n:Nat):Bool :=
 if a=3 then decide (b.size=1) && isW b && decide (n=0) else decide (1≤a∧a≤9) && decide (b.size=0) && decide (n=arN a)
theorem kOk_len {a:Int} {b:ByteArray} {n:Nat} (h:kOk a b n=true):n=arN a:=by
 unfold kOk at h
 split at h
 ·next e=>subst e;simp at h;simp [h.2,arN]
 ·simp at h;exact h.2
def nds:Nat→S58→Nat
 | 0,_=>17
 | n+1,x=>if kOk x.f0 x.f1 x.f2.length=true then min (1+(x.f2.map (nds n)).sum) 17 else 17
theorem nds_le (n:Nat) (x:S58):nds n x≤17:=by
 cases n with
 | zero=>exact Nat.le_refl _
 | succ n=>unfold nds;split <;> omega
def Ht:Nat→S58→Prop
 | 0,_=>False
 | n+1,x=>x.f2.length≤1048576∧∀ a ∈ x.f2,Ht n a
theorem Ht_mono:∀ n (x:S58),Ht n x→Ht (n+1) x:=by
 intro n
 induction n with
 | zero=>intro x h;exact h.elim
 | succ n ih=>intro x h;exact ⟨h.1,fun a ha=>ih a (h.2 a ha)⟩
theorem Ht_le {n m:Nat} (h:n≤m) (x:S58) (hx:Ht n x):Ht m x:=by
 induction h with
 | refl=>exact hx
 | step _ ih=>exact Ht_mono _ _ ih
theorem Sm.ht {x:S58} (h:Sm x):∃ n,Ht n x:=by
 induction h with
 | mk a b l hl hs hb ih =>
  have h3:∃ n,∀ a ∈ l,Ht n a:=by
   clear hl hs hb
   induction l with
   | nil=>exact ⟨0,fun a ha=>by cases ha⟩
   | cons x l ihl =>
    obtain ⟨n,hn⟩:=ihl (fun a ha=>ih a (List.mem_cons_of_mem _ ha))
    obtain ⟨m,hm⟩:=ih x (List.mem_cons_self ..)
    refine ⟨max n m,fun a ha=>?_⟩
    rcases List.mem_cons.1 ha with rfl|ha
    ·exact Ht_le (by omega) _ hm
    ·exact Ht_le (by omega) _ (hn a ha)
  obtain ⟨n,hn⟩:=h3
  exact ⟨n+1,hl,hn⟩
def siz:Nat→S58→Nat
 | 0,_=>1
 | n+1,x=>1+(x.f2.map (siz n)).sum
def dep:Nat→S58→Nat
 | 0,_=>1
 | n+1,x=>(x.f2.map (dep n)).foldr max 0+1
def alls:Nat→S58→Bool
 | 0,_=>true
 | n+1,x=>(x.f2.all (alls n)) && kOk x.f0 x.f1 x.f2.length
theorem siz_pos (n:Nat) (x:S58):1≤siz n x:=by cases n <;> simp [siz]
theorem dep_pos (n:Nat) (x:S58):1≤dep n x:=by cases n <;> simp [dep]
theorem dep_le_siz (n:Nat):∀ x:S58,dep n x≤siz n x:=by
 induction n with
 | zero=>intro x;simp [dep,siz]
 | succ n ih =>
  intro x
  simp only [dep,siz]
  generalize x.f2=l
  induction l with
  | nil=>simp
  | cons y l ihl=>simp only [List.map_cons,List.foldr_cons,List.sum_cons];have:=ih y;omega
theorem nds_eq (n:Nat):∀ (x:S58) (e:Nat),Ht n x→nds e x=if alls n x=true∧dep n x≤e∧siz n x≤16 then siz n x else 17:=by
 induction n with
 | zero=>intro x e h;exact h.elim
 | succ n ih =>
  intro x e h
  cases e with
  | zero =>
   have:=dep_pos (n+1) x
   rw [if_neg (by omega)]
   rfl
  | succ e =>
   unfold nds
   by_cases hk:kOk x.f0 x.f1 x.f2.length=true
   ·rw [if_pos hk]
    have hl:=kOk_len hk
    have h2:=arN_le x.f0
    obtain ⟨_,hm⟩:=h
    simp only [alls,dep,siz,hk,Bool.and_true]
    generalize x.f2=l at *
    match l with
    | []=>simp
    | [p] =>
     have ip:=ih p e (hm p (by simp))
     have hp:=siz_pos n p
     have hq:=dep_pos n p
     simp only [List.map_cons,List.map_nil,List.sum_cons,List.sum_nil,List.foldr_cons,List.foldr_nil,List.all_cons,List.all_nil,Bool.and_true,ip]
     by_cases c1:alls n p=true <;> by_cases c2:dep n p≤e <;> by_cases c3:siz n p≤16 <;> simp only [c1,c2,c3,true_and,false_and,and_true,and_false,if_true,if_false,Bool.false_eq_true] <;> first|omega|(split <;> omega)
    | [p,q] =>
     have ip:=ih p e (hm p (by simp))
     have iq:=ih q e (hm q (by simp))
     have hp:=siz_pos n p
     have hq:=siz_pos n q
     have hp':=dep_pos n p
     have hq':=dep_pos n q
     simp only [List.map_cons,List.map_nil,List.sum_cons,List.sum_nil,List.foldr_cons,List.foldr_nil,List.all_cons,List.all_nil,Bool.and_true,ip,iq,Bool.and_eq_true]
     by_cases c1:alls n p=true <;> by_cases c2:dep n p≤e <;> by_cases c3:siz n p≤16 <;> by_cases c1':alls n q=true <;> by_cases c2':dep n q≤e <;> by_cases c3':siz n q≤16 <;> simp only [c1,c2,c3,c1',c2',c3',true_and,false_and,and_true,and_false,if_true,if_false,Bool.false_eq_true] <;> first|omega|(split <;> omega)
    | p :: q :: r :: l=>simp at hl;omega
   ·rw [if_neg hk,if_neg]
    simp [alls,hk]
theorem impl_argsOf_ev (a:Int):Evt (fun k=>impl_argsOf.f k a) (if 1≤a∧a≤9 then (arN a:Int) else -1):=by
 refine ⟨3,fun k hk=>?_⟩
 obtain ⟨m,rfl⟩:∃ m,k=m+3:=⟨k - 3,by omega⟩
 have h:a=1∨a=2∨a=3∨a=4∨a=5∨a=6∨a=7∨a=8∨a=9∨¬ (1≤a∧a≤9):=by omega
 rcases h with rfl|rfl|rfl|rfl|rfl|rfl|rfl|rfl|rfl|h
 all_goals first
  | simp [impl_argsOf.f,impl_argsOf.j0,impl_argsOf.j1,arN,-Int.reduceNeg];done
  | skip
 rw [if_neg h]
 have e:∀ c:Int,1≤c→c≤9→¬ a=c:=fun c h1 h2 h3=>h (by omega)
 have eb:∀ c:Int,1≤c→c≤9→(a == c)=false:=fun c h1 h2=>by simpa using e c h1 h2
 simp [impl_argsOf.f,impl_argsOf.j0,impl_argsOf.j1,e 1,e 2,e 3,e 4,e 5,e 6,e 7,e 8,e 9,eb 4,eb 9]
theorem impl_nodesOf_j0t (v a:Int) (b:ByteArray) (l:List S58):Evt (fun k=>impl_nodesOf.j0 k v true a b l) 17:=by
 refine Evt.step ?_
 simp only [impl_nodesOf.j0]
 exact Evt.pos trivial (Evt.ret _)
theorem impl_nodesOf_l0 (n:Nat) (hn:n≤6) (l:List S58) (hl:l.length≤2) (ih:∀ x ∈ l,Evt (fun k=>impl_nodesOf.f k x.f0 x.f1 x.f2 (n:Int)) ((nds n x:Nat):Int)) :
  ∀ d i acc:Nat,i+d=l.length→acc≤1+17 * i→Evt (fun k=>impl_nodesOf.l0 k ((n+1:Nat):Int) (acc:Int) l (l.length:Int) (i:Int)) ((min (acc+((l.drop i).map (nds n)).sum) 17:Nat):Int):=by
 intro d
 induction d with
 | zero =>
  intro i acc hi ha
  refine Evt.step ?_
  simp only [impl_nodesOf.l0]
  refine Evt.neg (by omega) ((Evt.ret _).cast ?_)
  rw [List.drop_of_length_le (by omega)]
  simp only [mn,List.map_nil,List.sum_nil,Nat.add_zero]
  split <;> omega
 | succ d ihd =>
  intro i acc hi ha
  have hi':i < l.length:=by omega
  have hx:=nds_le n l[i]
  refine Evt.step ?_
  simp only [impl_nodesOf.l0]
  rw [rxI_at l i hi',w64s (by omega),w64 (x:=((n+1:Nat):Int) - 1) (by omega) (by omega),show ((n+1:Nat):Int) - 1=(n:Int) by omega]
  refine Evt.pos (by omega) (Evt.pos (by omega) (Evt.pos (by omega) (Evt.bind (ih _ (List.getElem_mem hi')) ?_)))
  rw [w64 (by omega) (by omega),show (acc:Int)+((nds n l[i]:Nat):Int)=((acc+nds n l[i]:Nat):Int) by omega]
  refine (ihd (i+1) (acc+nds n l[i]) (by omega) (by omega)).cast ?_
  rw [List.drop_eq_getElem_cons hi',List.map_cons,List.sum_cons,Nat.add_assoc]
theorem impl_nodesOf_ev (n:Nat):n≤6→∀ x:S58,Evt (fun k=>impl_nodesOf.f k x.f0 x.f1 x.f2 (n:Int)) ((nds n x:Nat):Int):=by
 induction n with
 | zero =>
  intro _ x
  refine Evt.step ?_
  simp only [impl_nodesOf.f]
  exact Evt.pos (by omega) ((impl_nodesOf_j0t _ _ _ _).cast (by simp [nds]))
 | succ n ih =>
  intro hn x
  refine Evt.step ?_
  simp only [impl_nodesOf.f]
  refine Evt.neg (by omega) (Evt.bind (impl_argsOf_ev _) ?_)
  unfold nds
  by_cases hlen:(x.f2.length:Int)=(if 1≤x.f0∧x.f0≤9 then (arN x.f0:Int) else -1)
  ·have e:((x.f2.length:Int) != (if 1≤x.f0∧x.f0≤9 then (arN x.f0:Int) else -1))=false:=by simp [hlen]
   rw [e]
   have hr:1≤x.f0∧x.f0≤9:=by
    by_cases hr:1≤x.f0∧x.f0≤9
    ·exact hr
    ·rw [if_neg hr] at hlen;omega
   rw [if_pos hr] at hlen
   have ha:=arN_le x.f0
   have hj1:Evt (fun k=>impl_nodesOf.j1 k ((n+1:Nat):Int) x.f0 x.f1 x.f2) ((min (1+(x.f2.map (nds n)).sum) 17:Nat):Int):=by
    refine Evt.step ?_
    simp only [impl_nodesOf.j1]
    have:=impl_nodesOf_l0 n (by omega) x.f2 (by omega) (fun y _=>ih (by omega) y) x.f2.length 0 1 (by omega) (by omega)
    simpa using this
   refine Evt.step ?_
   simp only [impl_nodesOf.j0]
   refine Evt.neg (by decide) ?_
   by_cases h3:x.f0=3
   ·refine Evt.pos h3 ?_
    have h0:x.f2.length=0:=by rw [h3] at hlen;simp [arN] at hlen;simp [hlen]
    by_cases h1:x.f1.size=1
    ·refine Evt.pos (by omega) (Evt.bind (impl_IsWord_ev _ (by omega)) ?_)
     cases hw:isW x.f1 with
     | true=>exact Evt.pos rfl (hj1.cast (by simp [kOk,h3,h1,hw,h0]))
     | false=>exact Evt.neg (by decide) ((Evt.ret _).cast (by simp [kOk,h3,h1,hw]))
    ·exact Evt.neg (by omega) ((Evt.ret _).cast (by simp [kOk,h3,h1]))
   ·refine Evt.neg h3 ?_
    by_cases h1:x.f1.size=0
    ·have h4:x.f2.length=arN x.f0:=by omega
     exact Evt.pos ((toList_nil_iff _).2 h1) (hj1.cast (by simp [kOk,h3,h1,hr,h4]))
    ·exact Evt.neg (fun h=>h1 ((toList_nil_iff _).1 h)) ((Evt.ret _).cast (by simp [kOk,h3,h1]))
  ·have e:((x.f2.length:Int) != (if 1≤x.f0∧x.f0≤9 then (arN x.f0:Int) else -1))=true:=bne_iff_ne.mpr hlen
   rw [e]
   refine (impl_nodesOf_j0t _ _ _ _).cast ?_
   rw [if_neg]
   ·rfl
   ·intro hk
    have:=kOk_len hk
    refine hlen ?_
    have hr:1≤x.f0∧x.f0≤9:=by
     unfold kOk at hk
     split at hk
     ·omega
     ·simp at hk;exact hk.1.1
    rw [if_pos hr];omega
theorem impl_IsValidRegex_ev (x:S58):Evt (fun k=>impl_IsValidRegex.f k x.f0 x.f1 x.f2) (decide (nds 6 x≤16)):=by
 simp only [impl_IsValidRegex.f]
 refine Evt.bind (impl_nodesOf_ev 6 (Nat.le_refl _) x) ((Evt.ret _).cast ?_)
 have e:(((nds 6 x:Nat):Int)≤16)=(nds 6 x≤16):=by apply propext;omega
 simp [e]
theorem spec_l3Left_ev (n:Nat):∀ x:S58,Ht n x→∀ v:Int,0≤v→v≤16→∃ r,Evt (fun k=>spec_l3Left.f k x.f0 x.f1 x.f2 v) r∧r≤16∧(if (siz n x:Int)≤v then r=v - siz n x else r < 0):=by
 induction n with
 | zero=>intro x h;exact h.elim
 | succ n ih =>
  rintro ⟨a,b,l⟩ ⟨hl,hm⟩ v h0 h1
  simp only at hl hm
  have hh:∀ d i:Nat,i+d=l.length→∀ u:Int,u≤16→∃ r,Evt (fun k=>spec_l3Left.l0 k u (i:Int) a b l) r∧r≤16∧(if ((((l.drop i).map (siz n)).sum:Nat):Int)≤u then r=u - (((l.drop i).map (siz n)).sum:Nat) else r < 0):=by
   intro d
   induction d with
   | zero =>
    intro i hi u hu
    refine ⟨u,Evt.step ?_,hu,?_⟩
    ·simp only [spec_l3Left.l0]
     exact Evt.neg (by omega) (Evt.ret _)
    ·rw [List.drop_of_length_le (by omega)]
     simp only [List.map_nil,List.sum_nil]
     split <;> omega
   | succ d ihd =>
    intro i hi u hu
    have hi':i < l.length:=by omega
    rw [List.drop_eq_getElem_cons hi',List.map_cons,List.sum_cons]
    by_cases hu0:u ≥ 0
    ·obtain ⟨r,hr,hr',hc⟩:=ih l[i] (hm _ (List.getElem_mem hi')) u hu0 hu
     obtain ⟨r2,hr2,hr2',hc2⟩:=ihd (i+1) (by omega) r hr'
     refine ⟨r2,Evt.step ?_,hr2',?_⟩
     ·simp only [spec_l3Left.l0]
      rw [rxI_at l i hi',w64s (by omega)]
      exact Evt.pos (by omega) (Evt.pos hu0 (Evt.pos (by omega) (Evt.bind hr hr2)))
     ·generalize (((l.drop (i+1)).map (siz n)).sum)=s at *
      generalize siz n l[i]=t at *
      split at hc <;> split at hc2 <;> split <;> omega
    ·refine ⟨u,Evt.step ?_,hu,?_⟩
     ·simp only [spec_l3Left.l0]
      exact Evt.pos (by omega) (Evt.neg hu0 (Evt.ret _))
     ·rw [if_neg (by omega)];omega
  obtain ⟨r,hr,hr',hc⟩:=hh l.length 0 (by omega) (v - 1) (by omega)
  refine ⟨r,Evt.step ?_,hr',?_⟩
  ·simp only [spec_l3Left.f]
   rw [w64 (by omega) (by omega)]
   exact hr
  ·rw [List.drop_zero] at hc
   have e:siz (n+1) (⟨a,b,l⟩:S58)=1+(l.map (siz n)).sum:=by simp [siz]
   by_cases hs:((siz (n+1) (⟨a,b,l⟩:S58):Nat):Int)≤v
   ·rw [if_pos hs]
    rw [if_pos (by omega)] at hc
    omega
   ·rw [if_neg hs]
    rw [if_neg (by omega)] at hc
    exact hc
theorem mem_sum {n:Nat} (l:List S58) (y:S58) (h:y ∈ l):siz n y≤(l.map (siz n)).sum:=by
 induction l with
 | nil=>cases h
 | cons x l ih =>
  rw [List.map_cons,List.sum_cons]
  rcases List.mem_cons.1 h with rfl|h
  ·omega
  ·have:=ih h;omega
theorem spec_l3Depth_ev (n:Nat):∀ x:S58,Ht n x→siz n x≤16→Evt (fun k=>spec_l3Depth.f k x.f0 x.f1 x.f2) (dep n x:Int):=by
 induction n with
 | zero=>intro x h;exact h.elim
 | succ n ih =>
  rintro ⟨a,b,l⟩ ⟨hl,hm⟩ hs
  simp only at hl hm
  simp only [siz] at hs
  have hx:∀ y ∈ l,siz n y≤16:=by
   intro y hy
   have:siz n y≤(l.map (siz n)).sum:=mem_sum l y hy
   omega
  have hh:∀ d i:Nat,i+d=l.length→∀ u:Nat,u≤16→Evt (fun k=>spec_l3Depth.l0 k (u:Int) (i:Int) a b l) ((max u (((l.drop i).map (dep n)).foldr max 0)+1:Nat):Int):=by
   intro d
   induction d with
   | zero =>
    intro i hi u hu
    refine Evt.step ?_
    simp only [spec_l3Depth.l0]
    rw [List.drop_of_length_le (by omega)]
    refine Evt.neg (by omega) ((Evt.ret _).cast ?_)
    rw [w64 (by omega) (by omega)]
    simp
   | succ d ihd =>
    intro i hi u hu
    have hi':i < l.length:=by omega
    have h1:=hx _ (List.getElem_mem hi')
    have h2:=dep_le_siz n l[i]
    refine Evt.step ?_
    simp only [spec_l3Depth.l0]
    rw [List.drop_eq_getElem_cons hi',List.map_cons,List.foldr_cons]
    rw [rxI_at l i hi',w64s (by omega)]
    refine Evt.pos (by omega) (Evt.pos (by omega) (Evt.bind (ih _ (hm _ (List.getElem_mem hi')) h1) (Evt.bindc (a:=((max u (dep n l[i]):Nat):Int)) ?_ ?_)))
    ·simp only [spec_l1Max.f]
     split
     ·congr 1;omega
     ·congr 1;omega
    ·refine (ihd (i+1) (by omega) (max u (dep n l[i])) (by omega)).cast ?_
     congr 1
     generalize ((l.drop (i+1)).map (dep n)).foldr max 0=z
     omega
  refine Evt.step ?_
  simp only [spec_l3Depth.f]
  refine (hh l.length 0 (by omega) 0 (by omega)).cast ?_
  simp [dep]
theorem spec_l3Args_ev (a:Int):Evt (fun k=>spec_l3Args.f k a) (arN a:Int):=by
 refine ⟨1,fun k hk=>?_⟩
 obtain ⟨m,rfl⟩:∃ m,k=m+1:=⟨k - 1,by omega⟩
 have h:a=5∨a=6∨a=7∨a=8∨a=9∨(a ≠ 5∧a ≠ 6∧a ≠ 7∧a ≠ 8∧a ≠ 9):=by omega
 rcases h with rfl|rfl|rfl|rfl|rfl|⟨h1,h2,h3,h4,h5⟩
 all_goals simp [spec_l3Args.f,spec_l3Args.j0,arN, *]
theorem spec_l3All_ev (n:Nat):∀ x:S58,Ht n x→Evt (fun k=>spec_l3All.f k x.f0 x.f1 x.f2) (alls n x):=by
 induction n with
 | zero=>intro x h;exact h.elim
 | succ n ih =>
  rintro ⟨a,b,l⟩ ⟨hl,hm⟩
  simp only at hl hm
  refine Evt.step ?_
  simp only [spec_l3All.f,alls]
  have hh:=Evt.up (fun k i=>spec_l3All.l0 k i a b l) l.length (fun i=>(l.drop i).all (alls n) && kOk a b l.length) ?_ ?_
  ·simpa using hh
  ·refine Evt.step ?_
   simp only [spec_l3All.l0]
   rw [List.drop_of_length_le (by omega)]
   refine Evt.neg (by omega) ?_
   simp only [List.all_nil,Bool.true_and]
   unfold kOk
   by_cases h3:a=3
   ·rw [if_pos h3]
    refine Evt.pos h3 ?_
    by_cases h1:b.size=1
    ·refine Evt.pos (by omega) (Evt.bind (spec_IsWord_ev _ (by omega)) ?_)
     cases hw:isW b with
     | true =>
      refine Evt.pos rfl ((Evt.ret _).cast ?_)
      have e:((l.length:Int) == 0)=decide (l.length=0):=by rw [show ((l.length:Int) == 0)=decide ((l.length:Int)=0) from rfl];congr 1;apply propext;omega
      simp [h1,e]
     | false=>exact Evt.neg (by decide) ((Evt.ret _).cast (by simp))
    ·exact Evt.neg (by omega) ((Evt.ret _).cast (by simp [h1]))
   ·rw [if_neg h3]
    refine Evt.neg h3 ?_
    by_cases hr:1≤a∧a≤9
    ·refine Evt.bindc (a:=true) (by simp [spec_l1In.f,hr.1,hr.2]) (Evt.pos rfl ?_)
     by_cases h1:b.size=0
     ·refine Evt.pos ((toList_nil_iff _).2 h1) (Evt.bind (spec_l3Args_ev _) ((Evt.ret _).cast ?_))
      have e:((l.length:Int) == (arN a:Int))=decide (l.length=arN a):=by rw [show ((l.length:Int) == (arN a:Int))=decide ((l.length:Int)=(arN a:Int)) from rfl];congr 1;apply propext;omega
      simp [h1,hr.1,hr.2,e]
     ·exact Evt.neg (fun h=>h1 ((toList_nil_iff _).1 h)) ((Evt.ret _).cast (by simp [h1]))
    ·refine Evt.bindc (a:=false) ?_ (Evt.neg (by decide) ((Evt.ret _).cast (by simp [hr])))
     simp only [spec_l1In.f]
     by_cases hr1:a ≥ 1
     ·rw [if_pos hr1];congr 1;simp;omega
     ·rw [if_neg hr1]
  ·intro i hi h
   refine Evt.step ?_
   simp only [spec_l3All.l0]
   rw [rxI_at l i hi,w64s (by omega),List.drop_eq_getElem_cons hi]
   refine Evt.pos (by omega) (Evt.pos (by omega) (Evt.bind (ih _ (hm _ (List.getElem_mem hi))) ?_))
   rw [List.all_cons]
   cases alls n l[i] with
   | true=>exact Evt.pos rfl (h.cast (by simp))
   | false=>exact Evt.neg (by decide) ((Evt.ret _).cast (by simp))
theorem spec_IsValidRegex_ev (x:S58) (h:Sm x):Evt (fun k=>spec_IsValidRegex.f k x.f0 x.f1 x.f2) (decide (nds 6 x≤16)):=by
 obtain ⟨n,hn⟩:=h.ht
 rw [nds_eq n x 6 hn]
 simp only [spec_IsValidRegex.f]
 obtain ⟨r,hr,_,hc⟩:=spec_l3Left_ev n x hn 16 (by omega) (by omega)
 refine Evt.bind hr ?_
 by_cases h1:siz n x≤16
 ·rw [if_pos (by omega)] at hc
  refine Evt.pos (by omega) (Evt.bind (spec_l3Depth_ev n x hn h1) ?_)
  by_cases h2:dep n x≤6
  ·refine Evt.pos (by omega) (Evt.bind (spec_l3All_ev n x hn) ((Evt.ret _).cast ?_))
   cases ha:alls n x <;> simp [h1,h2]
  ·exact Evt.neg (by omega) ((Evt.ret _).cast (by simp [h2]))
 ·rw [if_neg (by omega)] at hc
  exact Evt.neg (by omega) ((Evt.ret _).cast (by simp [h1]))
def zR (d:Int) (e:ByteArray) (l:List S58):Bool:=decide (d=0) && decide (e.size=0) && ((l.length:Int) == 0)
theorem spec_l9Zero_eq (d:Int) (e:ByteArray) (l:List S58):spec_l9Zero.f d e l=some (zR d e l):=by
 unfold spec_l9Zero.f zR
 by_cases h1:d=0
 ·by_cases h2:e.size=0
  ·rw [if_pos h1,if_pos ((toList_nil_iff _).2 h2)];simp [h1,h2]
  ·rw [if_pos h1,if_neg (fun h=>h2 ((toList_nil_iff _).1 h))];simp [h2]
 ·rw [if_neg h1];simp [h1]
theorem impl_isZeroRegex_eq (d:Int) (e:ByteArray) (l:List S58):impl_isZeroRegex.f d e l=some (zR d e l):=by
 unfold impl_isZeroRegex.f zR
 by_cases h1:d=0
 ·by_cases h2:e.size=0
  ·rw [if_pos h1,if_pos ((toList_nil_iff _).2 h2)];simp [h1,h2]
  ·rw [if_pos h1,if_neg (fun h=>h2 ((toList_nil_iff _).1 h))];simp [h2]
 ·rw [if_neg h1];simp [h1]
def inR (a lo hi:Int):Bool:=decide (lo≤a∧a≤hi)
theorem spec_l1In_eq (a lo hi:Int):spec_l1In.f a lo hi=some (inR a lo hi):=by
 unfold spec_l1In.f inR
 by_cases h:a ≥ lo
 ·rw [if_pos h];congr 1;simp [show lo≤a from h]
 ·rw [if_neg h];congr 1;simp;omega
theorem impl_within_eq (a lo hi:Int):impl_within.f a lo hi=some (inR a lo hi):=by
 unfold impl_within.f inR
 by_cases h:a ≥ lo
 ·rw [if_pos h];congr 1;simp [show lo≤a from h]
 ·rw [if_neg h];congr 1;simp;omega
def cfs (m:List Int):Bool:=m.all fun c=>inR c (-9) 9
theorem rdI_at (m:List Int) (i:Nat) (h:i < m.length):rd m (i:Int)=m[i]:=by simp [rd,h]
theorem spec_l9Coeffs_ev (m:List Int) (hm:m.length≤1048576):Evt (fun k=>spec_l9Coeffs.f k m) (cfs m && ((m.length:Int) == 3)):=by
 have h:=Evt.up (fun k i=>spec_l9Coeffs.l0 k m i) m.length (fun i=>cfs (m.drop i) && ((m.length:Int) == 3)) ?_ ?_
 ·simpa [spec_l9Coeffs.f] using h
 ·refine Evt.step ?_
  simp only [spec_l9Coeffs.l0]
  rw [List.drop_of_length_le (by omega)]
  exact Evt.neg (by omega) ((Evt.ret _).cast (by simp [cfs]))
 ·intro i hi h
  refine Evt.step ?_
  simp only [spec_l9Coeffs.l0]
  rw [rdI_at m i hi,w64s (by omega),List.drop_eq_getElem_cons hi]
  refine Evt.pos (by omega) (Evt.pos (by omega) (Evt.bindc (spec_l1In_eq _ _ _) ?_))
  have e:cfs (m[i] :: m.drop (i+1))=(inR m[i] (-9) 9 && cfs (m.drop (i+1))):=rfl
  rw [e]
  cases inR m[i] (-9) 9 with
  | true=>exact Evt.pos rfl (h.cast (by simp))
  | false=>exact Evt.neg (by decide) ((Evt.ret _).cast (by simp))
theorem impl_coeffs_ev (m:List Int) (hm:m.length≤1048576):Evt (fun k=>slices_ContainsFunc_int_int.f k m) (!cfs m):=by
 simp only [slices_ContainsFunc_int_int.f,slices_IndexFunc_int_int.f]
 have h:∀ d i:Nat,i+d=m.length→∃ r,Evt (fun k=>slices_IndexFunc_int_int.l0 k m (m.length:Int) (i:Int)) r∧decide (r ≥ 0) = !cfs (m.drop i):=by
  intro d
  induction d with
  | zero =>
   intro i hi
   refine ⟨-1,Evt.step ?_,?_⟩
   ·simp only [slices_IndexFunc_int_int.l0]
    exact Evt.neg (by omega) (Evt.ret _)
   ·rw [List.drop_of_length_le (by omega)];rfl
  | succ d ih =>
   intro i hi
   have hi':i < m.length:=by omega
   have e:cfs (m[i] :: m.drop (i+1))=(inR m[i] (-9) 9 && cfs (m.drop (i+1))):=rfl
   rw [List.drop_eq_getElem_cons hi',e]
   obtain ⟨r,hr,hc⟩:=ih (i+1) (by omega)
   cases hq:inR m[i] (-9) 9 with
   | true =>
    refine ⟨r,Evt.step ?_,by simpa using hc⟩
    simp only [slices_IndexFunc_int_int.l0,impl_IsValidConstraint_1.f]
    rw [rdI_at m i hi',w64s (by omega)]
    exact Evt.pos (by omega) (Evt.pos (by omega) (Evt.pos (by omega) (Evt.bind (Evt.bindc (impl_within_eq _ _ _) (Evt.ret _)) (Evt.neg (by simp [hq]) hr))))
   | false =>
    refine ⟨(i:Int),Evt.step ?_,by simp⟩
    simp only [slices_IndexFunc_int_int.l0,impl_IsValidConstraint_1.f]
    rw [rdI_at m i hi']
    exact Evt.pos (by omega) (Evt.pos (by omega) (Evt.pos (by omega) (Evt.bind (Evt.bindc (impl_within_eq _ _ _) (Evt.ret _)) (Evt.pos (by simp [hq]) (Evt.ret _)))))
 obtain ⟨r,hr,hc⟩:=h m.length 0 (by omega)
 exact Evt.bind hr ((Evt.ret _).cast (by rw [hc];rfl))
def valX (x:Bool) (a:Int) (b c:ByteArray) (d:Int) (e:ByteArray) (l:List S58) (m:List Int) (n:Int):Bool :=
 if a=1∨a=2 then isTm b && (isTm c && (zR d e l && x))
 else if a=3∨a=4 then isTm b && (decide (c.size=0) && (decide (nds 6 ⟨d,e,l⟩≤16) && x))
 else if a=5 then decide (b.size=0) && (decide (c.size=0) && (zR d e l && ((cfs m && ((m.length:Int) == 3)) && inR n (-99) 99)))
 else false
def valC (a:Int) (b c:ByteArray) (d:Int) (e:ByteArray) (l:List S58) (m:List Int) (n:Int):Bool :=
 valX (decide (m.length=0) && (n == 0)) a b c d e l m n
section
variable {a : Int} {b c : ByteArray} {d : Int} {e : ByteArray} {l : List S58} {m : List Int} {n : Int}
theorem and_ev {g h:Nat→Option Bool} {p q:Bool} (hg:Evt g p) (hh:p=true→Evt h q):Evt (fun k=>(g k).bind fun t=>if t=true then h k else some false) (p && q):=by
 refine Evt.bind hg ?_
 cases p with
 | true=>exact Evt.pos rfl ((hh rfl).cast (by simp))
 | false=>exact Evt.neg (by decide) ((Evt.ret _).cast (by simp))
theorem nil_ev {s:ByteArray} {h:Nat→Option Bool} {q:Bool} (hh:s.size=0→Evt h q):Evt (fun k=>if s.toList=([]:List UInt8) then h k else some false) (decide (s.size=0) && q):=by
 by_cases hs:s.size=0
 ·exact Evt.pos ((toList_nil_iff _).2 hs) ((hh hs).cast (by simp [hs]))
 ·exact Evt.neg (fun h=>hs ((toList_nil_iff _).1 h)) ((Evt.ret _).cast (by simp [hs]))
theorem last_ev {g:Nat→Option Bool} {p:Bool} (hg:Evt g p):Evt (fun k=>(g k).bind fun t=>some t) p:=Evt.bind hg (Evt.ret _)
theorem spec_j1t (x:Bool) (v:Int) (hb:b.size≤9223372036854775807) (hc:c.size≤9223372036854775807):Evt (fun k=>spec_IsValidConstraint.j1 k x v true a b c d e l m n) (isTm b && (isTm c && (zR d e l && x))):=by
 refine Evt.step ?_
 simp only [spec_IsValidConstraint.j1]
 exact Evt.pos trivial (and_ev (spec_IsTerm_ev b hb) fun _=>and_ev (spec_IsTerm_ev c hc) fun _=>and_ev (Evt.const (spec_l9Zero_eq d e l)) fun _=>Evt.ret _)
theorem spec_j2t (x:Bool) (v:Int) (hb:b.size≤9223372036854775807) (hr:Sm ⟨d,e,l⟩):Evt (fun k=>spec_IsValidConstraint.j2 k x v true a b c d e l m n) (isTm b && (decide (c.size=0) && (decide (nds 6 ⟨d,e,l⟩≤16) && x))):=by
 refine Evt.step ?_
 simp only [spec_IsValidConstraint.j2]
 exact Evt.pos trivial (and_ev (spec_IsTerm_ev b hb) fun _=>nil_ev fun _=>and_ev (spec_IsValidRegex_ev ⟨d,e,l⟩ hr) fun _=>Evt.ret _)
theorem spec_IsValidConstraint_ev (hb:b.size≤9223372036854775807) (hc:c.size≤9223372036854775807) (hr:Sm ⟨d,e,l⟩) (hm:m.length≤1048576):Evt (fun k=>spec_IsValidConstraint.f k a b c d e l m n) (valC a b c d e l m n):=by
 have hj:∀ x:Bool,Evt (fun k=>spec_IsValidConstraint.j0 k x a b c d e l m n) (valX x a b c d e l m n):=by
  intro x
  refine Evt.step ?_
  simp only [spec_IsValidConstraint.j0]
  unfold valX
  by_cases h1:a=1
  ·subst h1;exact Evt.pos rfl ((spec_j1t x _ hb hc).cast (by simp))
  refine Evt.neg h1 ?_
  by_cases h2:a=2
  ·subst h2;exact (spec_j1t x _ hb hc).cast (by simp)
  rw [show (a == 2)=false by simpa using h2,if_neg (by omega)]
  refine Evt.step ?_
  simp only [spec_IsValidConstraint.j1]
  refine Evt.neg (by decide) ?_
  by_cases h3:a=3
  ·subst h3;exact Evt.pos rfl ((spec_j2t x _ hb hr).cast (by simp))
  refine Evt.neg h3 ?_
  by_cases h4:a=4
  ·subst h4;exact (spec_j2t x _ hb hr).cast (by simp)
  rw [show (a == 4)=false by simpa using h4,if_neg (by omega)]
  refine Evt.step ?_
  simp only [spec_IsValidConstraint.j2]
  refine Evt.neg (by decide) ?_
  by_cases h5:a=5
  ·rw [if_pos h5]
   exact Evt.pos h5 (nil_ev fun _=>nil_ev fun _=>and_ev (Evt.const (spec_l9Zero_eq d e l)) fun _=>and_ev (spec_l9Coeffs_ev m hm) fun _=>last_ev (Evt.const (spec_l1In_eq _ _ _)))
  ·rw [if_neg h5]
   exact Evt.neg h5 (Evt.ret _)
 simp only [spec_IsValidConstraint.f]
 unfold valC
 by_cases h0:m.length=0
 ·exact Evt.pos (by omega) ((hj _).cast (by simp [h0]))
 ·exact Evt.neg (by omega) ((hj _).cast (by simp [h0]))
theorem impl_j1t (v:Int):Evt (fun k=>impl_IsValidConstraint.j1 k v true a b c d e l m n) (isTm b && (isTm c && (zR d e l))):=by
 refine Evt.step ?_
 simp only [impl_IsValidConstraint.j1]
 exact Evt.pos trivial (and_ev (impl_IsTerm_ev b) fun _=>and_ev (impl_IsTerm_ev c) fun _=>last_ev (Evt.const (impl_isZeroRegex_eq d e l)))
theorem impl_j2t (v:Int):Evt (fun k=>impl_IsValidConstraint.j2 k v true a b c d e l m n) (isTm b && (decide (c.size=0) && (decide (nds 6 ⟨d,e,l⟩≤16)))):=by
 refine Evt.step ?_
 simp only [impl_IsValidConstraint.j2]
 exact Evt.pos trivial (and_ev (impl_IsTerm_ev b) fun _=>nil_ev fun _=>last_ev (impl_IsValidRegex_ev ⟨d,e,l⟩))
theorem impl_j0t:Evt (fun k=>impl_IsValidConstraint.j0 k true a b c d e l m n) false:=by
 refine Evt.step ?_
 simp only [impl_IsValidConstraint.j0]
 exact Evt.pos trivial (Evt.ret _)
theorem impl_IsValidConstraint_ev (hm:m.length≤1048576):Evt (fun k=>impl_IsValidConstraint.f k a b c d e l m n) (valC a b c d e l m n):=by
 have hj:Evt (fun k=>impl_IsValidConstraint.j0 k false a b c d e l m n) (valX true a b c d e l m n):=by
  refine Evt.step ?_
  simp only [impl_IsValidConstraint.j0]
  unfold valX
  refine Evt.neg (by decide) ?_
  by_cases h1:a=1
  ·subst h1;exact Evt.pos rfl ((impl_j1t _).cast (by simp))
  refine Evt.neg h1 ?_
  by_cases h2:a=2
  ·subst h2;exact (impl_j1t _).cast (by simp)
  rw [show (a == 2)=false by simpa using h2,if_neg (by omega)]
  refine Evt.step ?_
  simp only [impl_IsValidConstraint.j1]
  refine Evt.neg (by decide) ?_
  by_cases h3:a=3
  ·subst h3;exact Evt.pos rfl ((impl_j2t _).cast (by simp))
  refine Evt.neg h3 ?_
  by_cases h4:a=4
  ·subst h4;exact (impl_j2t _).cast (by simp)
  rw [show (a == 4)=false by simpa using h4,if_neg (by omega)]
  refine Evt.step ?_
  simp only [impl_IsValidConstraint.j2]
  refine Evt.neg (by decide) ?_
  by_cases h5:a=5
  ·rw [if_pos h5]
   refine Evt.pos h5 (nil_ev fun _=>nil_ev fun _=>and_ev (Evt.const (impl_isZeroRegex_eq d e l)) fun _=>?_)
   by_cases h3':m.length=3
   ·refine Evt.pos (by omega) ?_
    rw [show ((m.length:Int) == 3)=true by simp [h3'],Bool.and_true,Bool.and_comm (cfs m)]
    exact and_ev (Evt.const (impl_within_eq _ _ _)) fun _=>Evt.bind (impl_coeffs_ev m hm) ((Evt.ret _).cast (by simp))
   ·refine Evt.neg (by omega) ((Evt.ret _).cast ?_)
    have e3:((m.length:Int) == 3)=false:=by simp;omega
    simp [e3]
  ·rw [if_neg h5]
   exact Evt.neg h5 (Evt.ret _)
 simp only [impl_IsValidConstraint.f]
 unfold valC
 have hx:∀ x,a=5→valX x a b c d e l m n=valX true a b c d e l m n:=by
  intro x h;subst h;simp [valX]
 have hy:¬ a=5→valX false a b c d e l m n=false:=by
  intro h;unfold valX;simp [h]
 by_cases h5:a=5
 ·exact Evt.pos h5 (hj.cast (hx _ h5).symm)
 refine Evt.neg h5 ?_
 by_cases h0:m.length=0
 ·refine Evt.pos (by omega) ?_
  by_cases hn:n=0
  ·rw [show (n != 0)=false by simp [hn]]
   exact hj.cast (by simp [h0,hn])
  ·rw [show (n != 0)=true by simp [hn]]
   exact impl_j0t.cast (by rw [show (n == 0)=false by simp [hn]];simp [hy h5])
 ·exact Evt.neg (by omega) (impl_j0t.cast (by simp [h0,hy h5]))
end
section
variable {a : Int} {b c : ByteArray} {d : Int} {e : ByteArray} {l : List S58} {m : List Int} {n : Int}
end
def valK (y:S61):Bool:=valC y.f0 y.f1 y.f2 y.f3.f0 y.f3.f1 y.f3.f2 y.f4 y.f5
def valP (ys:List S61):Bool:=ys.all valK && decide ((ys.length:Int)≤6)
theorem spec_IsValidProblem_ev (ys:List S61) (hl:ys.length≤1048576) (h:∀ y ∈ ys,CsSm y):Evt (fun k=>spec_IsValidProblem.f k ys) (valP ys):=by
 have hh:=Evt.up (fun k i=>spec_IsValidProblem.l0 k i ys) ys.length (fun i=>(ys.drop i).all valK && decide ((ys.length:Int)≤6)) ?_ ?_
 ·simpa [spec_IsValidProblem.f,valP] using hh
 ·refine Evt.step ?_
  simp only [spec_IsValidProblem.l0]
  rw [List.drop_of_length_le (by omega)]
  exact Evt.neg (by omega) ((Evt.ret _).cast (by simp))
 ·intro i hi hn
  obtain ⟨g1,g2,g3,g4⟩:=h _ (List.getElem_mem hi)
  have hv:=spec_IsValidConstraint_ev (a:=ys[i].f0) (d:=ys[i].f3.f0) (n:=ys[i].f5) (Nat.le_trans g3 (by decide)) (Nat.le_trans g4 (by decide)) (by rw [rx_eta];exact g1) g2
  refine Evt.step ?_
  simp only [spec_IsValidProblem.l0]
  rw [csI_at ys i hi,w64s (by omega),List.drop_eq_getElem_cons hi,List.all_cons]
  refine Evt.pos (by omega) (Evt.pos (by omega) (Evt.bind hv ?_))
  change Evt (fun k=>if valK ys[i]=true then _ else _) _
  cases valK ys[i] with
  | true=>exact Evt.pos rfl (hn.cast (by simp))
  | false=>exact Evt.neg (by decide) ((Evt.ret _).cast (by simp))
theorem impl_IsValidProblem_ev (ys:List S61) (hl:ys.length≤1048576) (h:∀ y ∈ ys,CsSm y):Evt (fun k=>impl_IsValidProblem.f k ys) (valP ys):=by
 simp only [impl_IsValidProblem.f,impl_Constraint_54.f,impl_Constraint_64.f]
 unfold valP
 by_cases h6:(ys.length:Int)≤6
 ·refine Evt.pos h6 ?_
  have hh:∀ d i:Nat,i+d=ys.length→∃ r,Evt (fun k=>impl_Constraint_64.l0 k ys (ys.length:Int) (i:Int)) r∧decide (r ≥ 0) = !((ys.drop i).all valK):=by
   intro d
   induction d with
   | zero =>
    intro i hi
    refine ⟨-1,Evt.step ?_,?_⟩
    ·simp only [impl_Constraint_64.l0]
     exact Evt.neg (by omega) (Evt.ret _)
    ·rw [List.drop_of_length_le (by omega)];rfl
   | succ d ih =>
    intro i hi
    have hi':i < ys.length:=by omega
    obtain ⟨g1,g2,g3,g4⟩:=h _ (List.getElem_mem hi')
    have hv:Evt (fun k=>impl_IsValidConstraint.f k ys[i].f0 ys[i].f1 ys[i].f2 ys[i].f3.f0 ys[i].f3.f1 ys[i].f3.f2 ys[i].f4 ys[i].f5) (valK ys[i]):=impl_IsValidConstraint_ev g2
    rw [List.drop_eq_getElem_cons hi',List.all_cons]
    obtain ⟨r,hr,hc⟩:=ih (i+1) (by omega)
    cases hq:valK ys[i] with
    | true =>
     refine ⟨r,Evt.step ?_,by simpa using hc⟩
     simp only [impl_Constraint_64.l0,impl_IsValidProblem_1.f]
     rw [csI_at ys i hi',w64s (by omega)]
     exact Evt.pos (by omega) (Evt.pos (by omega) (Evt.pos (by omega) (Evt.bind (Evt.bind hv (Evt.ret _)) (Evt.neg (by simp [hq]) hr))))
    | false =>
     refine ⟨(i:Int),Evt.step ?_,by simp⟩
     simp only [impl_Constraint_64.l0,impl_IsValidProblem_1.f]
     rw [csI_at ys i hi']
     exact Evt.pos (by omega) (Evt.pos (by omega) (Evt.pos (by omega) (Evt.bind (Evt.bind hv (Evt.ret _)) (Evt.pos (by simp [hq]) (Evt.ret _)))))
  obtain ⟨r,hr,hc⟩:=hh ys.length 0 (by omega)
  refine Evt.bind (Evt.bind hr (Evt.ret _)) ((Evt.ret _).cast ?_)
  rw [hc]
  simp [h6]
 ·exact Evt.neg h6 ((Evt.ret _).cast (by simp [h6]))
end Go.Proofs.Ytgajchjnljekgaa.F
namespace Go.Proofs.Ytgajchjnljekgaa.F
open Go Go.RowKit YtgajchjnljekgaaW.PrintWords Ytgajchjnljekgaa.Pl Ytgajchjnljekgaa.A Ytgajchjnljekgaa.Ext
def nmB (l:List UInt8):List Int:=l.map fun b=>(b.toNat:Int)
theorem strOfNums_nmB (l:List UInt8):strOfNums (nmB l)=⟨l.toArray⟩:=by
 simp [strOfNums,nmB,List.map_map,Function.comp_def]
def jn (s:ByteArray):List ByteArray→Bool→List Int→Option (List Int)
 | [],_,acc=>some acc
 | x :: l,fst,acc =>
  if ((if fst=true then acc else acc ++ bytesOf s) ++ bytesOf x).length > 1048576 then none else jn s l false ((if fst=true then acc else acc ++ bytesOf s) ++ bytesOf x)
def outJ (o:Option (List Int)):ByteArray:=match o with|some a=>strOfNums a|none=>(⟨#[]⟩:ByteArray)
def joinP (l:List ByteArray) (s:ByteArray):ByteArray:=outJ (jn s l true [])
theorem jn_tail (s:ByteArray) (l:List ByteArray):∀ (acc a:List Int),acc.length≤1048576→jn s l false acc=some a→a=acc ++ nmB (Lib.joinTail s.data.toList (l.map (·.data.toList)))∧a.length≤1048576:=by
 induction l with
 | nil =>
  intro acc a ha h
  simp only [jn,Option.some.injEq] at h
  subst h
  exact ⟨by simp [Lib.joinTail,nmB],ha⟩
 | cons x l ih =>
  intro acc a ha h
  simp only [jn,Bool.false_eq_true,if_false] at h
  split at h
  ·cases h
  ·next hl =>
   obtain ⟨h1,h2⟩:=ih _ _ (by omega) h
   refine ⟨?_,h2⟩
   rw [h1]
   simp [Lib.joinTail,nmB,bytesOf]
theorem jn_all (s:ByteArray) (l:List ByteArray) (a:List Int) (h:jn s l true []=some a):a=nmB (Lib.join (l.map (·.data.toList)) s.data.toList)∧a.length≤1048576:=by
 cases l with
 | nil =>
  simp only [jn,Option.some.injEq] at h
  subst h
  exact ⟨rfl,by decide⟩
 | cons x l =>
  simp only [jn,if_true,List.nil_append] at h
  split at h
  ·cases h
  ·next hl =>
   obtain ⟨h1,h2⟩:=jn_tail s l _ _ (by omega) h
   refine ⟨?_,h2⟩
   rw [h1,List.map_cons,Lib.join_cons]
   simp [nmB,bytesOf]
theorem jn_strings (s:ByteArray) (l:List ByteArray) (hl:l.length≤1048576) (a:List Int) (h:jn s l true []=some a):strings_Join.f l s=some (strOfNums a):=by
 obtain ⟨h1,h2⟩:=jn_all s l a h
 have h3:(Lib.join (l.map (·.data.toList)) s.data.toList).length≤1048576:=by
  rw [h1] at h2
  simpa [nmB] using h2
 unfold strings_Join.f
 rw [if_pos ⟨by omega,by omega⟩,h1,strOfNums_nmB]
 rfl
theorem joinP_size (l:List ByteArray) (s:ByteArray):(joinP l s).size≤1048576:=by
 unfold joinP
 cases h:jn s l true [] with
 | none=>exact Nat.zero_le _
 | some a =>
  have:=(jn_all s l a h).2
  show (strOfNums a).size≤_
  rw [strOfNums_size]
  exact this
theorem rdS_at (l:List ByteArray) (i:Nat) (h:i < l.length):rdOf ByteArray.empty l (i:Int)=l[i]:=by simp [rdOf,h]
theorem spec_Join_ev (l:List ByteArray) (s:ByteArray) (hl:l.length≤1048576) (hs:s.size≤1048576) (hx:∀ x ∈ l,x.size≤2097152):Evt (fun k=>spec_Join.f k l s) (joinP l s):=by
 have hh:∀ d i:Nat,i+d=l.length→∀ acc:List Int,acc.length≤1048576→Evt (fun k=>spec_Join.l0 k l s acc (i:Int)) (outJ (jn s (l.drop i) (decide (i=0)) acc)):=by
  intro d
  induction d with
  | zero =>
   intro i hi acc ha
   refine Evt.step ?_
   simp only [spec_Join.l0]
   rw [List.drop_of_length_le (by omega)]
   exact Evt.neg (by omega) (Evt.ret _)
  | succ d ih =>
   intro i hi acc ha
   have hi':i < l.length:=by omega
   have hxi:=hx _ (List.getElem_mem hi')
   refine Evt.step ?_
   simp only [spec_Join.l0]
   rw [List.drop_eq_getElem_cons hi',rdS_at l i hi',w64s (by omega)]
   simp only [jn]
   refine Evt.pos (by omega) ?_
   by_cases h0:i=0
   ·have hd:decide (i=0)=true:=by simpa using h0
    simp only [if_pos hd]
    refine Evt.neg (by omega) (Evt.pos (by omega) (Evt.pos (by omega) (Evt.bindc rfl ?_)))
    have hn:=ih (i+1) (by omega) (acc ++ bytesOf l[i])
    by_cases hc:(acc ++ bytesOf l[i]).length > 1048576
    ·rw [if_pos hc]
     exact Evt.pos (by omega) (Evt.ret _)
    ·rw [if_neg hc]
     exact Evt.neg (by omega) (hn (by omega))
   ·have hd:¬ (decide (i=0)=true):=by simpa using h0
    simp only [if_neg hd]
    refine Evt.pos (by omega) (Evt.pos (by omega) (Evt.bindc rfl (Evt.pos (by omega) (Evt.pos (by rw [List.length_append,bytesOf_length];omega) (Evt.bindc rfl ?_)))))
    have hn:=ih (i+1) (by omega) (acc ++ bytesOf s ++ bytesOf l[i])
    by_cases hc:(acc ++ bytesOf s ++ bytesOf l[i]).length > 1048576
    ·rw [if_pos hc]
     exact Evt.pos (by omega) (Evt.ret _)
    ·rw [if_neg hc]
     exact Evt.neg (by omega) (hn (by omega))
 exact hh l.length 0 (by omega) [] (by simp)
theorem impl_Join_ev (l:List ByteArray) (s:ByteArray) (hl:l.length≤1048576) (hs:s.size≤1048576) (hx:∀ x ∈ l,x.size≤2097152):Evt (fun k=>impl_Join.f k l s) (joinP l s):=by
 have hh:∀ d i:Nat,i+d=l.length→∀ acc:List Int,acc.length≤1048576→(∀ a,jn s (l.drop i) (decide (i=0)) acc=some a→jn s l true []=some a)→Evt (fun k=>impl_Join.l0 k l s (acc.length:Int) l (l.length:Int) (i:Int)) (outJ (jn s (l.drop i) (decide (i=0)) acc)):=by
  intro d
  induction d with
  | zero =>
   intro i hi acc ha hg
   refine Evt.step ?_
   simp only [impl_Join.l0]
   rw [List.drop_of_length_le (by omega)] at hg ⊢
   refine Evt.neg (by omega) (Evt.bindc (jn_strings s l hl acc (hg acc rfl)) (Evt.ret _))
  | succ d ih =>
   intro i hi acc ha hg
   have hi':i < l.length:=by omega
   have hxi:=hx _ (List.getElem_mem hi')
   refine Evt.step ?_
   simp only [impl_Join.l0]
   rw [List.drop_eq_getElem_cons hi'] at hg ⊢
   rw [rdS_at l i hi',w64s (by omega)]
   simp only [jn] at hg ⊢
   refine Evt.pos (by omega) (Evt.pos (by omega) (Evt.pos (by omega) ?_))
   by_cases h0:i=0
   ·have hd:decide (i=0)=true:=by simpa using h0
    simp only [if_pos hd] at hg ⊢
    refine Evt.neg (by omega) ?_
    have hn:=ih (i+1) (by omega) (acc ++ bytesOf l[i])
    have hq:wrap64 ((acc.length:Int)+(l[i].size:Int))=((acc ++ bytesOf l[i]).length:Int):=by
     rw [w64 (by omega) (by omega),List.length_append,bytesOf_length]
     omega
    rw [hq]
    by_cases hc:(acc ++ bytesOf l[i]).length > 1048576
    ·rw [if_pos hc]
     exact Evt.pos (by omega) (Evt.ret _)
    ·rw [if_neg hc] at hg ⊢
     exact Evt.neg (by omega) (hn (by omega) hg)
   ·have hd:¬ (decide (i=0)=true):=by simpa using h0
    simp only [if_neg hd] at hg ⊢
    refine Evt.pos (by omega) ?_
    have hn:=ih (i+1) (by omega) (acc ++ bytesOf s ++ bytesOf l[i])
    have hq:wrap64 (wrap64 ((acc.length:Int)+(s.size:Int))+(l[i].size:Int))=((acc ++ bytesOf s ++ bytesOf l[i]).length:Int):=by
     rw [w64 (x:=(acc.length:Int)+(s.size:Int)) (by omega) (by omega),w64 (by omega) (by omega),List.length_append,List.length_append,bytesOf_length,bytesOf_length]
     omega
    rw [hq]
    by_cases hc:(acc ++ bytesOf s ++ bytesOf l[i]).length > 1048576
    ·rw [if_pos hc]
     exact Evt.pos (by omega) (Evt.ret _)
    ·rw [if_neg hc] at hg ⊢
     exact Evt.neg (by omega) (hn (by omega) hg)
 exact hh l.length 0 (by omega) [] (by simp) (fun a h=>h)
def lefts (ys:List S61):List ByteArray:=(ys.filter fun y=>decide (y.f0=1)).map (·.f1)
def rights (ys:List S61):List ByteArray:=(ys.filter fun y=>decide (y.f0=1)).map (·.f2)
theorem lefts_cons (y:S61) (ys:List S61):lefts (y :: ys)=if y.f0=1 then y.f1 :: lefts ys else lefts ys:=by
 unfold lefts
 by_cases h:y.f0=1 <;> simp [h]
theorem rights_cons (y:S61) (ys:List S61):rights (y :: ys)=if y.f0=1 then y.f2 :: rights ys else rights ys:=by
 unfold rights
 by_cases h:y.f0=1 <;> simp [h]
theorem lefts_len (ys:List S61):(lefts ys).length≤ys.length:=by
 unfold lefts
 rw [List.length_map]
 exact List.length_filter_le _ _
theorem rights_len (ys:List S61):(rights ys).length≤ys.length:=by
 unfold rights
 rw [List.length_map]
 exact List.length_filter_le _ _
theorem lefts_mem {ys:List S61} (h:∀ y ∈ ys,CsSm y):∀ x ∈ lefts ys,x.size≤2097152:=by
 intro x hx
 unfold lefts at hx
 obtain ⟨y,hy,rfl⟩:=List.mem_map.1 hx
 have:=(h y (List.mem_filter.1 hy).1).2.2.1
 omega
theorem rights_mem {ys:List S61} (h:∀ y ∈ ys,CsSm y):∀ x ∈ rights ys,x.size≤2097152:=by
 intro x hx
 unfold rights at hx
 obtain ⟨y,hy,rfl⟩:=List.mem_map.1 hx
 have:=(h y (List.mem_filter.1 hy).1).2.2.2
 omega
def hashB:ByteArray:=(⟨#[35]⟩:ByteArray)
theorem hashB_size:hashB.size≤1048576:=by decide
def joinEq (ys:List S61):ByteArray × ByteArray × Bool :=
 if (valP ys && isEq (joinP (lefts ys) hashB) (joinP (rights ys) hashB))=true then (joinP (lefts ys) hashB,joinP (rights ys) hashB,true) else ((⟨#[]⟩:ByteArray),(⟨#[]⟩:ByteArray),false)
theorem spec_JoinEquations_ev (ys:List S61) (hl:ys.length≤1048576) (h:∀ y ∈ ys,CsSm y):Evt (fun k=>spec_JoinEquations.f k ys) (joinEq ys):=by
 have hend:Evt (fun k=>spec_JoinEquations.l0 k (lefts ys) (rights ys) (ys.length:Int) ys) (joinEq ys):=by
  have l1:=lefts_len ys
  have l2:=rights_len ys
  have s1:=joinP_size (lefts ys) hashB
  have s2:=joinP_size (rights ys) hashB
  refine Evt.step ?_
  simp only [spec_JoinEquations.l0]
  refine Evt.neg (by omega) (Evt.bind (spec_Join_ev _ hashB (by omega) hashB_size (lefts_mem h)) (Evt.bind (spec_Join_ev _ hashB (by omega) hashB_size (rights_mem h)) (Evt.bind (spec_IsValidProblem_ev ys hl h) ?_)))
  unfold joinEq
  cases valP ys with
  | false=>exact Evt.neg (by decide) ((Evt.ret _).cast (by simp))
  | true =>
   refine Evt.pos rfl (Evt.bind (spec_IsEquation_ev _ _ (by omega) (by omega)) ?_)
   cases isEq (joinP (lefts ys) hashB) (joinP (rights ys) hashB) with
   | false=>exact Evt.neg (by decide) ((Evt.ret _).cast (by simp))
   | true=>exact Evt.pos rfl ((Evt.ret _).cast (by simp))
 have hh:∀ d i:Nat,i+d=ys.length→∀ p q:List ByteArray,p.length≤i→q.length≤i→p ++ lefts (ys.drop i)=lefts ys→q ++ rights (ys.drop i)=rights ys→Evt (fun k=>spec_JoinEquations.l0 k p q (i:Int) ys) (joinEq ys):=by
  intro d
  induction d with
  | zero =>
   intro i hi p q hp hq h1 h2
   rw [List.drop_of_length_le (by omega)] at h1 h2
   have e1:p=lefts ys:=by simpa [lefts] using h1
   have e2:q=rights ys:=by simpa [rights] using h2
   rw [e1,e2,show i=ys.length by omega]
   exact hend
  | succ d ih =>
   intro i hi p q hp hq h1 h2
   have hi':i < ys.length:=by omega
   rw [List.drop_eq_getElem_cons hi',lefts_cons] at h1
   rw [List.drop_eq_getElem_cons hi',rights_cons] at h2
   refine Evt.step ?_
   simp only [spec_JoinEquations.l0]
   rw [csI_at ys i hi',w64s (by omega)]
   refine Evt.pos (by omega) (Evt.pos (by omega) ?_)
   by_cases hk:ys[i].f0=1
   ·rw [if_pos hk] at h1 h2
    exact Evt.pos hk (Evt.pos (by omega) (Evt.pos (by omega) (ih (i+1) (by omega) _ _ (by simp;omega) (by simp;omega) (by simpa using h1) (by simpa using h2))))
   ·rw [if_neg hk] at h1 h2
    exact Evt.neg hk (ih (i+1) (by omega) _ _ (by omega) (by omega) h1 h2)
 simp only [spec_JoinEquations.f]
 exact hh ys.length 0 (by omega) [] [] (by simp) (by simp) (by simp) (by simp)
theorem impl_JoinEquations_ev (ys:List S61) (hl:ys.length≤1048576) (h:∀ y ∈ ys,CsSm y):Evt (fun k=>impl_JoinEquations.f k ys) (joinEq ys):=by
 simp only [impl_JoinEquations.f]
 refine Evt.bind (impl_IsValidProblem_ev ys hl h) ?_
 cases hv:valP ys with
 | false=>exact Evt.neg (by decide) ((Evt.ret _).cast (by simp [joinEq,hv]))
 | true =>
  refine Evt.pos rfl ?_
  have hend:Evt (fun k=>impl_JoinEquations.l0 k (lefts ys) (rights ys) ys (ys.length:Int) (ys.length:Int)) (joinEq ys):=by
   have l1:=lefts_len ys
   have l2:=rights_len ys
   have s1:=joinP_size (lefts ys) hashB
   have s2:=joinP_size (rights ys) hashB
   refine Evt.step ?_
   simp only [impl_JoinEquations.l0]
   refine Evt.neg (by omega) (Evt.bind (impl_Join_ev _ hashB (by omega) hashB_size (lefts_mem h)) (Evt.bind (impl_Join_ev _ hashB (by omega) hashB_size (rights_mem h)) (Evt.bind (impl_IsEquation_ev _ _ (by omega) (by omega)) ?_)))
   unfold joinEq
   rw [hv]
   cases isEq (joinP (lefts ys) hashB) (joinP (rights ys) hashB) with
   | false=>exact Evt.neg (by decide) ((Evt.ret _).cast (by simp))
   | true=>exact Evt.pos rfl ((Evt.ret _).cast (by simp))
  have hh:∀ d i:Nat,i+d=ys.length→∀ p q:List ByteArray,p.length≤i→q.length≤i→p ++ lefts (ys.drop i)=lefts ys→q ++ rights (ys.drop i)=rights ys→Evt (fun k=>impl_JoinEquations.l0 k p q ys (ys.length:Int) (i:Int)) (joinEq ys):=by
   intro d
   induction d with
   | zero =>
    intro i hi p q hp hq h1 h2
    rw [List.drop_of_length_le (by omega)] at h1 h2
    have e1:p=lefts ys:=by simpa [lefts] using h1
    have e2:q=rights ys:=by simpa [rights] using h2
    rw [e1,e2,show i=ys.length by omega]
    exact hend
   | succ d ih =>
    intro i hi p q hp hq h1 h2
    have hi':i < ys.length:=by omega
    rw [List.drop_eq_getElem_cons hi',lefts_cons] at h1
    rw [List.drop_eq_getElem_cons hi',rights_cons] at h2
    refine Evt.step ?_
    simp only [impl_JoinEquations.l0]
    rw [csI_at ys i hi',w64s (by omega)]
    refine Evt.pos (by omega) (Evt.pos (by omega) (Evt.pos (by omega) ?_))
    by_cases hk:ys[i].f0=1
    ·rw [if_pos hk] at h1 h2
     exact Evt.pos hk (Evt.pos (by omega) (Evt.pos (by omega) (ih (i+1) (by omega) _ _ (by simp;omega) (by simp;omega) (by simpa using h1) (by simpa using h2))))
    ·rw [if_neg hk] at h1 h2
     exact Evt.neg hk (ih (i+1) (by omega) _ _ (by omega) (by omega) h1 h2)
  exact hh ys.length 0 (by omega) [] [] (by simp) (by simp) (by simp) (by simp)
end Go.Proofs.Ytgajchjnljekgaa.F
namespace Go.Proofs.Ytgajchjnljekgaa.Pure
open Go Go.RowKit YtgajchjnljekgaaW.PrintWords Ytgajchjnljekgaa.Pl Ytgajchjnljekgaa.F Ytgajchjnljekgaa.A Ytgajchjnljekgaa.Ext
theorem spec_ApplyMove_ev (a b:ByteArray) (m:Int) (s:ByteArray) (ha:a.size≤1048600) (hb:b.size≤1048600) (hs:s.size≤1048576):Evt (fun k=>spec_ApplyMove.f k a b m s) (applyB a b m s):=by
 have hr:=replB_size (fun x=>(s,x == m))
 simp only [spec_ApplyMove.f]
 exact Evt.bind (spec_ReplaceVar_ev a s m (by omega) hs) (Evt.bind (spec_ReplaceVar_ev b s m (by omega) hs) (Evt.bind (spec_StripEquation_ev _ _ (by have:=hr a;omega) (by have:=hr b;omega)) (Evt.ret _)))
theorem impl_ApplyMove_ev (a b:ByteArray) (m:Int) (s:ByteArray) (ha:a.size≤1048600) (hb:b.size≤1048600) (hs:s.size≤1048576):Evt (fun k=>impl_ApplyMove.f k a b m s) (applyB a b m s):=by
 simp only [impl_ApplyMove.f]
 exact Evt.bindc (impl_ReplaceVar_eq a s m (by omega) hs) (Evt.bindc (impl_ReplaceVar_eq b s m (by omega) hs) (Evt.bind (impl_StripEquation_ev _ _) (Evt.ret _)))
theorem drawJoinEquations_ok (l:List Int) (hl:l.length≤1048576):∃ ys,Evt (fun k=>spec_DrawJoinEquations.f k l) ys∧ys.length≤7∧∀ y ∈ ys,CsSm y:=by
 obtain ⟨h,e0⟩:=l1New_ok l hl
 obtain ⟨ys,i1,h1,e1,_,l2,hy,_⟩:=l10Bent_ok h (cu0 hl)
 refine ⟨ys,?_,l2,hy⟩
 simp only [spec_DrawJoinEquations.f]
 exact Evt.bind e0 (Evt.bind e1 (Evt.ret _))
theorem applyB_size (a b:ByteArray) (m:Int) (s:ByteArray):(applyB a b m s).1.size≤1048576∧(applyB a b m s).2.size≤1048576:=by
 have hr:=replB_size (fun x=>(s,x == m))
 have h1:=stripB_size (replB (fun x=>(s,x == m)) a) (replB (fun x=>(s,x == m)) b)
 have ha:=hr a
 have hb:=hr b
 unfold applyB
 omega
theorem FnMoves:FnMoves.Pure:=by
 intro l hl
 refine Evt.get (g:=fun k=>laws_FnMoves.f k l) ?_
 simp only [laws_FnMoves.f]
 by_cases hbig:(l.length:Int) > 1048576
 ·exact Evt.bindc (a:=true) (by simp [laws_big.f,hbig]) (Evt.pos rfl (Evt.ret _))
 refine Evt.bindc (a:=false) (by simp only [laws_big.f];congr 1;exact decide_eq_false hbig) (Evt.neg (by decide) ?_)
 have hl':l.length≤1048576:=by omega
 obtain ⟨a,b,e1,ha,hb⟩:=drawMovesOf_ok l hl'
 have hab:a.size+b.size≤9223372036854775807:=by omega
 have l4:=movesB_len a b
 have hst:=stripB_size a b
 refine Evt.bind e1 (Evt.bind (impl_MovesOf_ev a b hab) (Evt.bind (spec_MovesOf_ev a b hab) (Evt.bind (impl_StripEquation_ev a b) (Evt.pos rfl (Evt.bind (spec_StripEquation_ev a b (by omega) (by omega)) (Evt.neg (by simp) (Evt.bind (impl_IsClash_ev a b hab) (Evt.bind (spec_IsClash_ev a b hab) (Evt.neg (by simp) (Evt.bind (impl_IsQuadratic_ev a b hab) (Evt.bind (spec_IsQuadratic_ev a b hab) (Evt.neg (by simp) (Evt.bind (impl_IsEquation_ev a b (by omega) (by omega)) (Evt.bind (spec_IsEquation_ev a b (by omega) (by omega)) ?_))))))))))))))
 rw [show (isEq a b != isEq a b)=false by simp]
 refine Evt.step ?_
 simp only [laws_FnMoves.j0]
 refine Evt.neg (by decide) ?_
 have hend:Evt (fun k=>laws_FnMoves.l0 k l (movesB a b) (movesB a b) ((movesB a b).length:Int) a b (stripB a b).1 (stripB a b).2) true:=by
  obtain ⟨ys,e2,k1,k2⟩:=drawJoinEquations_ok l hl'
  obtain ⟨p,q,m,s,e3,k3,k4,k5⟩:=drawApplyMove_ok l hl'
  refine Evt.step ?_
  simp only [laws_FnMoves.l0]
  exact Evt.neg (by omega) (Evt.bind e2 (Evt.bind (impl_JoinEquations_ev ys (by omega) k2) (Evt.bind (spec_JoinEquations_ev ys (by omega) k2) (Evt.bind e3 (Evt.pos (by simp) (Evt.pos (by simp) (Evt.bind (impl_ApplyMove_ev p q m s (by omega) (by omega) (by omega)) (Evt.bind (spec_ApplyMove_ev p q m s (by omega) (by omega) (by omega)) ((Evt.ret _).cast (by simp))))))))))
 refine Evt.up (fun k i=>laws_FnMoves.l0 k l (movesB a b) (movesB a b) i a b (stripB a b).1 (stripB a b).2) (movesB a b).length (fun _=>true) hend ?_
 intro i hi ih
 have hmem:=mv_at (movesB a b) (i:Int) (by omega) (by omega)
 generalize hm:rd_T33 (movesB a b) (i:Int)=m at hmem
 have hs2:=(moves_mv a b m hmem).2.1
 have hsz:=applyB_size a b m.f0 m.f1
 have hq:=fun h=>quad_move a b h m hmem
 refine Evt.step ?_
 simp only [laws_FnMoves.l0]
 rw [hm]
 refine Evt.pos (by omega) (Evt.pos (by omega) (Evt.bind (impl_ApplyMove_ev a b m.f0 m.f1 (by omega) (by omega) (by omega)) (Evt.pos (by omega) (Evt.neg (by simp) (Evt.bind (spec_ApplyMove_ev a b m.f0 m.f1 (by omega) (by omega) (by omega)) ?_)))))
 generalize applyB a b m.f0 m.f1=u at hsz hq ⊢
 rw [show (!(u.1.toList == u.1.toList) || (!(u.2.toList == u.2.toList)))=false by simp]
 refine Evt.step ?_
 simp only [laws_FnMoves.j2]
 refine Evt.neg (by decide) (Evt.bind (spec_IsQuadratic_ev a b hab) ?_)
 have hnext:Evt (fun k=>laws_FnMoves.j5 k l (movesB a b) (movesB a b) (i:Int) 3 false a b (stripB a b).1 (stripB a b).2 u.1 u.2) true:=by
  refine Evt.step ?_
  simp only [laws_FnMoves.j5]
  rw [w64s (by omega)]
  exact Evt.neg (by decide) ih
 have hnext0:∀ x9:Int,Evt (fun k=>laws_FnMoves.j5 k l (movesB a b) (movesB a b) (i:Int) x9 false a b (stripB a b).1 (stripB a b).2 u.1 u.2) true:=by
  intro x9
  refine Evt.step ?_
  simp only [laws_FnMoves.j5]
  rw [w64s (by omega)]
  exact Evt.neg (by decide) ih
 cases hqd:isQd a b with
 | false =>
  refine Evt.neg (by decide) (Evt.step ?_)
  simp only [laws_FnMoves.j3]
  refine Evt.neg (by decide) (Evt.step ?_)
  simp only [laws_FnMoves.l1]
  refine Evt.pos (by omega) (Evt.bind (spec_IsQuadratic_ev a b hab) ?_)
  rw [hqd]
  exact hnext0 0
 | true =>
  obtain ⟨q1,q2⟩:=hq hqd
  refine Evt.pos rfl ?_
  rw [w64 (by omega) (by omega),w64 (by omega) (by omega),show decide ((u.1.size:Int)+(u.2.size:Int) > ((stripB a b).1.size:Int)+((stripB a b).2.size:Int))=false from decide_eq_false (by omega)]
  refine Evt.step ?_
  simp only [laws_FnMoves.j3]
  refine Evt.neg (by decide) ?_
  have hl1:∀ d j:Nat,j+d=3→Evt (fun k=>laws_FnMoves.l1 k l (movesB a b) (movesB a b) (i:Int) (j:Int) a b (stripB a b).1 (stripB a b).2 u.1 u.2) true:=by
   intro d
   induction d with
   | zero =>
    intro j hj
    refine Evt.step ?_
    simp only [laws_FnMoves.l1]
    exact Evt.neg (by omega) (hnext0 _)
   | succ d ihd =>
    intro j hj
    have hv:88≤bt (⟨#[88,89,90]⟩:ByteArray) (j:Int)∧bt (⟨#[88,89,90]⟩:ByteArray) (j:Int)≤90:=by
     have:j=0∨j=1∨j=2:=by omega
     rcases this with rfl|rfl|rfl <;> decide
    have hc:=q2 _ hv.1 hv.2
    refine Evt.step ?_
    simp only [laws_FnMoves.l1]
    refine Evt.pos (by omega) (Evt.bind (spec_IsQuadratic_ev a b hab) ?_)
    rw [hqd]
    refine Evt.step ?_
    simp only [laws_FnMoves.j5]
    rw [w64s (i:=j) (by omega)]
    exact Evt.pos trivial (Evt.pos (by omega) (Evt.pos (by omega) (Evt.pos (by omega) (Evt.bind (spec_CountByte_ev _ _ za111) (Evt.neg (by omega) (ihd (j+1) (by omega)))))))
  exact hl1 3 0 (by omega)
end Go.Proofs.Ytgajchjnljekgaa.Pure
namespace Go.Proofs.Ytgajchjnljekgaa.fnMoves
open Go.ChangeShapes Go.WideShapes Go.ChangeAt Go.RowKit Ytgajchjnljekgaa.Br YtgajchjnljekgaaW.PrintWords Ytgajchjnljekgaa.A
open Go.ChangeMaps (open_string shut_string)
theorem own:ownKnob Try.prog.godebug=none:=by kernel_rfl
theorem laidOut:laidOutB Try.prog=true:=by kernel_rfl
set_option maxHeartbeats 2000000 in
theorem lifted (os:Os) (started:os.Started) (H:Type) (enc:TypeId × Value→H) :
  ReturnsInHanded {} Try.checked os 3 .any (Rows.fnMovesSpec.pre6 enc Try.prog Try.f3 Rows.fnMovesRow.domain false) (Rows.fnMovesSpec.post enc Try.prog Try.f3 false true false false):=by
 refine returnsInHanded_of_change_sized (C:=Try.checked) own started (by kernel_rfl) Try.func3
  (ChangeSpec.witness6 (enc:=enc) (C:=Try.checked) false ⟨#[],#[.slice none 0 0],[]⟩ 8 (by kernel_rfl) (by kernel_rfl) (by kernel_rfl) (by kernel_rfl)) ?_
 intro W base args ds gs before hval0 hW hcnd hsz0 _
 have hval:∀ (j:Nat) t v,Try.f3.params[j]? = some t→args[j]? = some v→Value.okWide Try.prog W .any base t v:=hval0
 have hW':=hW
 obtain ⟨p,q,hA0,hV,rfl,hfz,hnd⟩:=hW
 have hA:DataW.TrodAll enc Try.prog W 0 (fun _=>true) true Try.f3.params.toList args.toList ds p:=hA0
 rw [Try.params3] at hA hval
 obtain ⟨v0,vs0,d0,ds0,p0,q0,hargs,rfl,rfl,h0,r0⟩:=trodAll_cons hA
 obtain ⟨rfl,rfl,rfl⟩:=trodAll_nil r0
 obtain rfl:args = #[v0]:=by cases args;simp_all
 obtain ⟨rfl,rfl⟩:=trodVars_none hV
 have k0:=h0
 have lt0:∀ x ∈ p0,x.block < W.heap.size:=by obtain ⟨m,hm⟩:=k0;exact DataW.trod_lt m _ _ _ hm
 obtain ⟨aa0,len0,cap0,rfl⟩:=okWide_slice Try.underlying22 (hval 0 22 v0 rfl rfl)
 obtain ⟨fuel0,hf0⟩:=h0
 obtain ⟨l0,⟨A0,c0,hcs0,hc0,hr0⟩,w0⟩:=(show ∀ n,BrN Try.prog n 22 _ _ from fun n=>(br_slice' Try.underlying22 (show Try.prog.cellsOf 5=1 by kernel_rfl) (fun n=>(br_int Try.underlying5 n)) n)) fuel0 H enc W 0 (fun _=>true) true fuel0 _ _ (Nat.le_refl _) hf0
 obtain ⟨rfl,rfl,rfl⟩:aa0=A0∧len0=l0.length∧cap0=c0:=by simpa [Value.cells] using hcs0
 clear hA0 hval0 hsz0
 obtain ⟨k,hp⟩:=Pure.FnMoves l0 w0
 refine (laws_FnMoves.calls k _ _ l0 true W hr0 hc0 hp rfl).mono fun e W' ⟨he,bel0⟩ => ?_
 subst he
 have bel:Below W.heap.size W W':=bel0
 exact ⟨_,rfl,_,_,_,[],_,[],hW',trodAll_mk1 (shut_bool Try.underlying4 _),(trodAll_cons_mk (Below.trod laidOut (by kernel_rfl) (of_decide_eq_true (by kernel_rfl)) k0 bel lt0) trodAll_mk0),rfl,bel.frame _,fun h=>by cases h⟩
theorem fact0:(Rows.fnMovesRow.inPlace == Try.pinned.checked.prog.inPlace 3)=true:=by kernel_rfl
theorem fact1:(Rows.fnMovesRow.unfollowed == Try.pinned.checked.prog.unfollowed 3)=true:=by kernel_rfl
theorem fact2:(Rows.fnMovesRow.recurses == Try.pinned.checked.prog.recurses 3)=true:=by kernel_rfl
theorem fact3:(Rows.fnMovesRow.named == Try.pinned.checked.prog.varsNamed 3)=true:=by kernel_rfl
theorem facts:joinedFacts Try.pinned.checked.prog 3 Try.f3 Rows.fnMovesSpec Rows.fnMovesRow=true:=by
 unfold joinedFacts
 rw [fact0,fact1,fact2,fact3]
 kernel_rfl
theorem known:Try.pinned.checked.prog.funcNamed Rows.fnMovesRow.func=some 3:=by kernel_rfl
theorem inst:Try.f3.isInstance Try.pinned.checked.prog Rows.fnMovesRow.origin Rows.fnMovesRow.targs:=of_decide_eq_true (by kernel_rfl)
theorem wrap:Try.f3.isWrapper Try.pinned.checked.prog Rows.fnMovesRow.wrapper Rows.fnMovesRow.mainSum:=by unfold Func.isWrapper;first|(rw [if_pos (by decide +kernel)];kernel_rfl)|(rw [if_neg (by decide +kernel)];exact ⟨rfl,rfl⟩)
theorem over:Rows.fnMovesRow.holds Try.pinned (OpenSpec.ofChange Rows.fnMovesSpec) :=
 OpenClaim.holds_of_wide 3 Try.f3 rfl rfl rfl rfl rfl rfl rfl ⟨rfl,rfl,rfl,rfl,rfl⟩ rfl rfl rfl rfl rfl known Try.func3 facts inst wrap
  (fun os started H enc _=>lifted os started H enc)
theorem proved:Rows.FnMovesSaid:=over
#print axioms proved
end Go.Proofs.Ytgajchjnljekgaa.fnMoves
namespace Go.Proofs.Ytgajchjnljekgaa
theorem fnMoves_holds:Rows.FnMovesSaid:=fnMoves.proved
end Go.Proofs.Ytgajchjnljekgaa
