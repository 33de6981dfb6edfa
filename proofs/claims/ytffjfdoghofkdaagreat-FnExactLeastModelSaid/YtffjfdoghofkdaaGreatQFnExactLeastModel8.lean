/- FnExactLeastModel: what its proof needs, put together by this session's program wip/merge.py out of the texts that wip/xp.py printed and of this session's own. -/
import Derived.Test.YtffjfdoghofkdaaGreatQFnExactLeastModel7
import Derived.Test.YtffjfdoghofkdaaGreatRows
import Derived.WalkKit
import Derived.ProofKit
import Derived.OpenShut
import Derived.ShutString
import Derived.ChangeOld
import Derived.Below
import Derived.SizedLaws
import Derived.Lib.SmallJoins
set_option linter.unusedVariables false
set_option linter.unusedSimpArgs false
set_option linter.unusedSectionVars false
set_option maxHeartbeats 8000000
set_option maxRecDepth 100000
namespace Go.Proofs.YtffjfdoghofkdaaGreat.F
open Go.RowKit YtffjfdoghofkdaaGreatW.PrintWords YtffjfdoghofkdaaGreat.Pl YtffjfdoghofkdaaGreat.A YtffjfdoghofkdaaGreat.Ext
theorem Evt.of_mono {α:Type} {g:Nat→Option α} (hm:∀ k,LeO (g k) (g (k+1))) {K:Nat} {r:α} (h:g K=some r):Evt g r:=by
 refine ⟨K,fun k hk=>?_⟩
 obtain ⟨d,rfl⟩:∃ d,k=K+d:=⟨k - K,by omega⟩
 clear hk
 induction d with
 | zero=>exact h
 | succ d ih=>exact hm _ r ih
def wordsOk (n:Int):Bool:=match impl_WordsUpTo.f 3000 n,spec_WordsUpTo.f 3000 n with
 | some a,some b=>decide (a=b) && (a.all isW && (decide (a.length≤400) && decide (0 < a.length)))
 | _,_=>false
theorem words_ok:([0,1,2,3,4,5]:List Int).all wordsOk=true:=by decide +kernel
theorem words_ev {n:Int} (h0:0≤n) (h5:n≤5):∃ ws:List ByteArray,Evt (fun k=>impl_WordsUpTo.f k n) ws∧Evt (fun k=>spec_WordsUpTo.f k n) ws∧(∀ w ∈ ws,isW w=true)∧ws.length≤400∧0 < ws.length:=by
 have hn:n ∈ ([0,1,2,3,4,5]:List Int):=by
  have:n=0∨n=1∨n=2∨n=3∨n=4∨n=5:=by omega
  simpa using this
 have h:=List.all_eq_true.1 words_ok n hn
 unfold wordsOk at h
 cases ha:impl_WordsUpTo.f 3000 n with
 | none=>rw [ha] at h;simp at h
 | some a =>
  cases hb:spec_WordsUpTo.f 3000 n with
  | none=>rw [ha,hb] at h;simp at h
  | some b =>
   rw [ha,hb] at h
   simp only [Bool.and_eq_true,List.all_eq_true,decide_eq_true_eq] at h
   obtain ⟨rfl,h1,h2,h3⟩:=h
   exact ⟨a,Evt.of_mono (fun k=>impl_WordsUpTo.mono n k) ha,Evt.of_mono (fun k=>spec_WordsUpTo.mono n k) hb,h1,h2,h3⟩
def setv (c:Int) (w x y z:ByteArray):ByteArray × ByteArray × ByteArray:=if c=88 then (w,y,z) else if c=89 then (x,w,z) else if c=90 then (x,y,w) else (x,y,z)
theorem impl_WithValue_eq (x y z:ByteArray) (c:Int) (w:ByteArray):impl_WithValue.f x y z c w=some (setv c w x y z):=by
 unfold impl_WithValue.f setv
 repeat' split
 all_goals rfl
theorem spec_WithValue_eq (x y z:ByteArray) (c:Int) (w:ByteArray):spec_WithValue.f x y z c w=some (setv c w x y z):=by
 unfold spec_WithValue.f setv
 repeat' split
 all_goals rfl
def srch (ps:List S67) (ws:List ByteArray):List Int→ByteArray→ByteArray→ByteArray→List S32→List S32
 | [],x,y,z,out=>if ps.all (hldB x y z)=true then out ++ [⟨x,y,z⟩] else out
 | c :: cs,x,y,z,out=>ws.foldl (fun o w=>srch ps ws cs (setv c w x y z).1 (setv c w x y z).2.1 (setv c w x y z).2.2 o) out
theorem fold_le {α:Type} (f:List α→ByteArray→List α) (m:Nat) (hf:∀ o w,(f o w).length≤o.length+m) (ws:List ByteArray):∀ o,(ws.foldl f o).length≤o.length+ws.length * m:=by
 induction ws with
 | nil=>intro o;simp
 | cons w ws ih =>
  intro o
  have h1:=hf o w
  have h2:=ih (f o w)
  rw [List.foldl_cons,List.length_cons,Nat.succ_mul]
  omega
theorem srch_le (ps:List S67) (ws:List ByteArray):∀ (cs:List Int) (x y z:ByteArray) (out:List S32),(srch ps ws cs x y z out).length≤out.length+ws.length ^ cs.length:=by
 intro cs
 induction cs with
 | nil =>
  intro x y z out
  unfold srch
  split <;> simp
 | cons c cs ih =>
  intro x y z out
  unfold srch
  rw [List.length_cons,Nat.pow_succ,Nat.mul_comm]
  exact fold_le _ _ (fun o w=>ih _ _ _ o) ws out
theorem toList_cons {s:ByteArray} {c:Int} {cs:List Int} (h:bytesOf s=c :: cs):¬ s.toList=([]:List UInt8):=by
 rw [toList_nil_iff]
 have:=congrArg List.length h
 rw [bytesOf_length] at this
 simp at this
 omega
structure Inv (ns x y z : ByteArray) : Prop where
 v:isVs x y z=true
 c:clr ns x y z=(x,y,z)
theorem Inv.set {ns x y z:ByteArray} (h:Inv ns x y z) {c:Int} (hc:c ∈ bytesOf ns) {w:ByteArray} (hw:isW w=true):Inv ns (setv c w x y z).1 (setv c w x y z).2.1 (setv c w x y z).2.2:=by
 obtain ⟨hv,hcl⟩:=h
 unfold isVs at hv
 simp only [Bool.and_eq_true] at hv
 unfold clr at hcl
 simp only [Prod.mk.injEq] at hcl
 unfold setv
 split
 ·subst c
  exact ⟨by simp [isVs,hw,hv],by simp [clr,hc,hcl]⟩
 ·split
  ·subst c
   exact ⟨by simp [isVs,hw,hv],by simp [clr,hc,hcl]⟩
  ·split
   ·subst c
    exact ⟨by simp [isVs,hw,hv],by simp [clr,hc,hcl]⟩
   ·exact ⟨by simp [isVs,hv],by simp [clr,hcl]⟩
section
variable {ps : List S67} {ws : List ByteArray} (hl : ps.length ≤ 1048576) (hs : ∀ y ∈ ps, CsSm y) (hv : valP ps = true) (hw : ∀ w ∈ ws, isW w = true) (hwl : ws.length ≤ 400)
theorem isW_le {s:ByteArray} (h:isW s=true):s.size≤9223372036854775807:=Nat.le_trans (isW_size h) (by decide)
theorem inv_sizes {ns x y z:ByteArray} (h:Inv ns x y z):x.size≤9223372036854775807∧y.size≤9223372036854775807∧z.size≤9223372036854775807:=by
 have:=h.v
 simp only [isVs,Bool.and_eq_true] at this
 exact ⟨isW_le this.1,isW_le this.2.1,isW_le this.2.2⟩
include hl hs hv
theorem leaf_impl {x y z:ByteArray} (h:Inv (varsP ps) x y z):Evt (fun k=>impl_IsModel.f k ps x y z) (ps.all (hldB x y z)):=by
 obtain ⟨h1,h2,h3⟩:=inv_sizes h
 refine (impl_IsModel_ev h1 h2 h3 ps hl hs).cast ?_
 unfold mdl
 rw [hv,h.v,h.c,decide_eq_true rfl]
 rfl
theorem leaf_spec {x y z:ByteArray} (h:isVs x y z=true):Evt (fun k=>spec_l11Keeps.f k ps x y z) (ps.all (hldB x y z)):=by
 simp only [spec_l11Keeps.f]
 have hh:∀ d i:Nat,i+d=ps.length→Evt (fun k=>spec_l11Keeps.l0 k (i:Int) ps x y z) ((ps.drop i).all (hldB x y z)):=by
  intro d
  induction d with
  | zero =>
   intro i hi
   refine Evt.step ?_
   simp only [spec_l11Keeps.l0]
   rw [List.drop_of_length_le (by omega)]
   exact Evt.neg (by omega) (Evt.ret _)
  | succ d ih =>
   intro i hi
   have hi':i < ps.length:=by omega
   have hk:=valP_all hv _ (List.getElem_mem hi')
   obtain ⟨r,h1,h2⟩:=holds_ev (a:=ps[i].f0) (b:=ps[i].f1) (c:=ps[i].f2) (d:=ps[i].f3.f0) (e:=ps[i].f3.f1) (l:=ps[i].f3.f2) (m:=ps[i].f4) (n:=ps[i].f5) hk h
   have h3:=holds_use h ps[i] hk
   rw [h2] at h3
   obtain rfl:=zi h3
   refine Evt.step ?_
   simp only [spec_l11Keeps.l0]
   rw [csI_at ps i hi',w64s (by omega),List.drop_eq_getElem_cons hi',List.all_cons]
   refine Evt.pos (by omega) (Evt.pos (by omega) (Evt.bind h1 ?_))
   cases hldB x y z ps[i] with
   | true=>exact Evt.pos rfl (by simpa using ih (i+1) (by omega))
   | false=>exact Evt.neg (by decide) (Evt.ret _)
 exact hh ps.length 0 (by omega)
include hw hwl
theorem impl_srch:∀ (m i:Nat),i+m=(varsP ps).size→∀ (x y z:ByteArray) (out:List S32),Inv (varsP ps) x y z→out.length+ws.length ^ m≤1000000000→Evt (fun k=>mwF k ps (varsP ps) ws (i:Int) x y z out) (srch ps ws ((bytesOf (varsP ps)).drop i) x y z out):=by
 intro m
 induction m with
 | zero =>
  intro i hi x y z out hI ho
  refine Evt.step ?_
  simp only [mwF]
  rw [List.drop_of_length_le za44]
  refine Evt.pos (by omega) (Evt.bind (leaf_impl hl hs hv hI) ?_)
  unfold srch
  cases ps.all (hldB x y z) with
  | true=>exact Evt.pos rfl (Evt.pos (by simp at ho;omega) (Evt.ret _))
  | false=>exact Evt.neg (by decide) (Evt.ret _)
 | succ m ih =>
  intro i hi x y z out hI ho
  have hi':i < (bytesOf (varsP ps)).length:=by rw [bytesOf_length];omega
  refine Evt.step ?_
  simp only [mwF]
  rw [List.drop_eq_getElem_cons hi',← bt_get (varsP ps) i hi']
  have hc:bt (varsP ps) i ∈ bytesOf (varsP ps):=by rw [bt_get _ i hi'];exact List.getElem_mem hi'
  unfold srch
  refine Evt.neg (by omega) ?_
  have h3:=varsP_size ps
  have hh:∀ d j:Nat,j+d=ws.length→∀ out:List S32,out.length+d * ws.length ^ m≤1000000000→Evt (fun k=>mwL k ps (varsP ps) ws (i:Int) x y z out (j:Int)) ((ws.drop j).foldl (fun o w=>srch ps ws ((bytesOf (varsP ps)).drop (i+1)) (setv (bt (varsP ps) i) w x y z).1 (setv (bt (varsP ps) i) w x y z).2.1 (setv (bt (varsP ps) i) w x y z).2.2 o) out):=by
   intro d
   induction d with
   | zero =>
    intro j hj out ho
    refine Evt.step ?_
    simp only [mwL]
    rw [show ws.drop j = [] from List.drop_of_length_le (by omega)]
    exact Evt.neg (by omega) (Evt.ret _)
   | succ d ihd =>
    intro j hj out ho
    have hj':j < ws.length:=by omega
    refine Evt.step ?_
    simp only [mwL]
    rw [List.drop_eq_getElem_cons hj',List.foldl_cons]
    rw [Nat.succ_mul] at ho
    have e:rdOf ByteArray.empty ws (j:Int)=ws[j]:=by simp [rdOf,hj']
    rw [e,w64s (i:=i) (by omega)]
    refine Evt.pos (by omega) (Evt.pos ⟨by omega,by omega,by omega⟩ (Evt.bindc (impl_WithValue_eq _ _ _ _ _) (Evt.bind (ih (i+1) (by omega) _ _ _ out (hI.set hc (hw _ (List.getElem_mem hj'))) (by omega)) ?_)))
    have hle:=srch_le ps ws ((bytesOf (varsP ps)).drop (i+1)) (setv (bt (varsP ps) i) ws[j] x y z).1 (setv (bt (varsP ps) i) ws[j] x y z).2.1 (setv (bt (varsP ps) i) ws[j] x y z).2.2 out
    rw [List.length_drop,bytesOf_length,show (varsP ps).size - (i+1)=m by omega] at hle
    rw [w64s (i:=j) (by omega)]
    exact ihd (j+1) (by omega) _ (by omega)
  have:=hh ws.length 0 (by omega) out (by rw [Nat.pow_succ,Nat.mul_comm] at ho;exact ho)
  simpa using this
theorem spec_srch:∀ (cs:List Int) (a1:ByteArray),bytesOf a1=cs→∀ (x y z:ByteArray) (out:List S32),(∀ c ∈ cs,c ∈ bytesOf (varsP ps))→Inv (varsP ps) x y z→out.length+ws.length ^ cs.length≤1000000000→Evt (fun k=>spec_l11All.f k ps a1 ws x y z out) (srch ps ws cs x y z out):=by
 intro cs
 induction cs with
 | nil =>
  intro a1 ha x y z out _ hI ho
  have hn:a1.toList=([]:List UInt8):=by
   rw [toList_nil_iff,← bytesOf_length,ha]
   rfl
  refine Evt.step ?_
  simp only [spec_l11All.f]
  refine Evt.pos hn (Evt.bind (leaf_spec hl hs hv hI.v) ?_)
  unfold srch
  cases ps.all (hldB x y z) with
  | true=>exact Evt.pos rfl (Evt.pos (by simp at ho;omega) (Evt.ret _))
  | false=>exact Evt.neg (by decide) (Evt.ret _)
 | cons c cs ih =>
  intro a1 ha x y z out hm hI ho
  have hlen:a1.size=cs.length+1:=by rw [← bytesOf_length,ha];rfl
  have h0:0 < (bytesOf a1).length:=by rw [ha];simp
  have hb:bt a1 0=c:=by rw [show (0:Int)=((0:Nat):Int) from rfl,bt_get a1 0 h0];simp only [ha];rfl
  have ht:bytesOf (a1.extract 1 a1.size)=cs:=by rw [bytesOf_tail,ha];rfl
  refine Evt.step ?_
  simp only [spec_l11All.f]
  unfold srch
  refine Evt.neg (toList_cons ha) ?_
  have hh:∀ d j:Nat,j+d=ws.length→∀ out:List S32,out.length+d * ws.length ^ cs.length≤1000000000→Evt (fun k=>spec_l11All.l0 k a1 ws out (j:Int) ps x y z) ((ws.drop j).foldl (fun o w=>srch ps ws cs (setv c w x y z).1 (setv c w x y z).2.1 (setv c w x y z).2.2 o) out):=by
   intro d
   induction d with
   | zero =>
    intro j hj out ho
    refine Evt.step ?_
    simp only [spec_l11All.l0]
    rw [show ws.drop j = [] from List.drop_of_length_le (by omega)]
    exact Evt.neg (by omega) (Evt.ret _)
   | succ d ihd =>
    intro j hj out ho
    have hj':j < ws.length:=by omega
    refine Evt.step ?_
    simp only [spec_l11All.l0]
    rw [List.drop_eq_getElem_cons hj',List.foldl_cons]
    rw [Nat.succ_mul] at ho
    have e:rdOf ByteArray.empty ws (j:Int)=ws[j]:=by simp [rdOf,hj']
    rw [e,hb,w64s (i:=j) (by omega)]
    refine Evt.pos (by omega) (Evt.pos (by omega) (Evt.pos (by omega) (Evt.pos (by omega) (Evt.bindc (spec_WithValue_eq _ _ _ _ _) (Evt.bind (ih _ ht _ _ _ out (fun c' hc'=>hm c' (by simp [hc'])) (hI.set (hm c (by simp)) (hw _ (List.getElem_mem hj'))) (by omega)) ?_)))))
    have hle:=srch_le ps ws cs (setv c ws[j] x y z).1 (setv c ws[j] x y z).2.1 (setv c ws[j] x y z).2.2 out
    exact ihd (j+1) (by omega) _ (by omega)
  have:=hh ws.length 0 (by omega) out (by rw [List.length_cons,Nat.pow_succ,Nat.mul_comm] at ho;exact ho)
  simpa using this
end
theorem boundP_cases (ps:List S67) (hv:valP ps=true):0≤boundP ps∧boundP ps≤5:=by
 unfold boundP
 rw [if_pos hv]
 split
 ·decide
 ·split <;> decide
theorem inv0 (ns:ByteArray):Inv ns (⟨#[]⟩:ByteArray) (⟨#[]⟩:ByteArray) (⟨#[]⟩:ByteArray):=by
 refine ⟨by decide,?_⟩
 unfold clr
 simp
theorem pow_le (W m:Nat) (hW:W≤400) (hm:m≤3):W ^ m≤1000000000:=by
 have h1:W ^ m≤400 ^ m:=Nat.pow_le_pow_left hW m
 have h2:400 ^ m≤400 ^ 3:=Nat.pow_le_pow_right (by omega) hm
 have h3:400 ^ 3≤1000000000:=by decide
 omega
theorem ModelsUpTo_ev (ps:List S67) (hl:ps.length≤1048576) (hs:∀ y ∈ ps,CsSm y) (n:Int):∃ r,Evt (fun k=>impl_ModelsUpTo.f k ps n) r∧Evt (fun k=>spec_ModelsUpTo.f k ps n) r∧r.length≤1000000000:=by
 have i1:=impl_IsValidProblem_ev ps hl hs
 have s1:=spec_IsValidProblem_ev ps hl hs
 simp only [spec_ModelsUpTo.f]
 unfold impl_ModelsUpTo.f
 cases hv:valP ps with
 | false =>
  rw [hv] at i1 s1
  exact ⟨[],Evt.bind i1 (Evt.neg (by decide) (Evt.ret _)),Evt.bind s1 (Evt.neg (by decide) (Evt.ret _)),by simp⟩
 | true =>
  rw [hv] at i1 s1
  obtain ⟨hb0,hb5⟩:=boundP_cases ps hv
  have s2:=spec_BoundOf_ev ps hl hs
  by_cases hn:n < 0
  ·refine ⟨[],Evt.bind i1 (Evt.pos rfl (Evt.pos hn (Evt.ret _))),Evt.bind s1 (Evt.pos rfl (Evt.bind s2 (Evt.bindc (a:=n) ?_ (Evt.bind (a:=[]) ?_ (Evt.pos rfl (Evt.ret _)))))),by simp⟩
   ·unfold spec_l1Min.f
    rw [if_pos (by omega)]
   ·simp only [spec_WordsUpTo.f]
    refine Evt.step ?_
    simp only [spec_WordsUpTo.l0]
    exact Evt.neg (by omega) (Evt.ret _)
  ·obtain ⟨ws,w1,w2,w3,w4,w5⟩:=words_ev (n:=min n (boundP ps)) (by omega) (by omega)
   have h3:=varsP_size ps
   refine ⟨srch ps ws (bytesOf (varsP ps)) (⟨#[]⟩:ByteArray) (⟨#[]⟩:ByteArray) (⟨#[]⟩:ByteArray) [],Evt.bind i1 (Evt.pos rfl (Evt.neg hn (Evt.bind (impl_VarsOfProblem_ev ps hl hs) (Evt.pos (by omega) (Evt.bind (impl_BoundOf_ev ps hl hs) (Evt.bind w1 ?_)))))),Evt.bind s1 (Evt.pos rfl (Evt.bind s2 (Evt.bindc (a:=min n (boundP ps)) ?_ (Evt.bind w2 (Evt.neg (by omega) (Evt.bind (spec_VarsOfProblem_ev ps hl hs) (Evt.bind (spec_srch hl hs hv w3 w4 _ _ rfl _ _ _ [] (fun c hc=>hc) (inv0 _) ?_) (Evt.ret _)))))))),?_⟩
   ·have:=impl_srch hl hs hv w3 w4 (varsP ps).size 0 (by omega) _ _ _ [] (inv0 _) (by simpa using pow_le ws.length _ w4 h3)
    simpa using this
   ·unfold spec_l1Min.f
    by_cases h:n < boundP ps
    ·rw [if_pos h,Int.min_eq_left (by omega)]
    ·rw [if_neg h,Int.min_eq_right (by omega)]
   ·simpa [bytesOf_length] using pow_le ws.length _ w4 h3
   ·have:=srch_le ps ws (bytesOf (varsP ps)) (⟨#[]⟩:ByteArray) (⟨#[]⟩:ByteArray) (⟨#[]⟩:ByteArray) []
    rw [bytesOf_length] at this
    have:=pow_le ws.length (varsP ps).size w4 h3
    simp at *
    omega
theorem vals_at (l:List S32) (i:Nat) (h:i < l.length):rd_T32 l (i:Int)=l[i]:=by simp [rd_T32,h]
def tl (v:S32):Int:=wrap64 (wrap64 ((v.f0.size:Int)+(v.f1.size:Int))+(v.f2.size:Int))
theorem impl_tl (v:S32):impl_TotalLength.f v.f0 v.f1 v.f2=some (tl v):=rfl
theorem spec_tl (v:S32):spec_TotalLength.f v.f0 v.f1 v.f2=some (tl v):=rfl
theorem least_some (all:List S32) (hn:all.length≤1000000000):∀ d i:Nat,i+d=all.length→∀ (j:Nat) (hj:j < all.length),∃ r,Evt (fun k=>spec_LeastModel.l0 k all (j:Int) (i:Int)) r∧Evt (fun k=>impl_LeastModel.l0 k true all (all.length:Int) (i:Int) all[j].f0 all[j].f1 all[j].f2) r:=by
 intro d
 induction d with
 | zero =>
  intro i hi j hj
  refine ⟨(all[j].f0,all[j].f1,all[j].f2,true),Evt.step ?_,Evt.step ?_⟩
  ·simp only [spec_LeastModel.l0]
   rw [vals_at all j hj]
   exact Evt.neg (by omega) (Evt.neg (by omega) (Evt.pos (by omega) (Evt.pos (by omega) (Evt.ret _))))
  ·simp only [impl_LeastModel.l0]
   exact Evt.neg (by omega) (Evt.ret _)
 | succ d ih =>
  intro i hi j hj
  have hi':i < all.length:=by omega
  by_cases hc:tl all[i] < tl all[j]
  ·obtain ⟨r,h1,h2⟩:=ih (i+1) (by omega) i hi'
   refine ⟨r,Evt.step ?_,Evt.step ?_⟩
   ·simp only [spec_LeastModel.l0]
    rw [vals_at all i hi',vals_at all j hj,w64s (by omega)]
    exact Evt.pos (by omega) (Evt.neg (by omega) (Evt.pos (by omega) (Evt.bindc (spec_tl _) (Evt.pos (by omega) (Evt.pos (by omega) (Evt.bindc (spec_tl _) (Evt.pos hc h1)))))))
   ·simp only [impl_LeastModel.l0]
    rw [vals_at all i hi',w64s (by omega)]
    exact Evt.pos (by omega) (Evt.pos (by omega) (Evt.pos (by omega) (Evt.pos (by simp) (Evt.bindc (impl_tl _) (Evt.bindc (impl_tl _) (Evt.pos hc h2))))))
  ·obtain ⟨r,h1,h2⟩:=ih (i+1) (by omega) j hj
   refine ⟨r,Evt.step ?_,Evt.step ?_⟩
   ·simp only [spec_LeastModel.l0]
    rw [vals_at all i hi',vals_at all j hj,w64s (by omega)]
    exact Evt.pos (by omega) (Evt.neg (by omega) (Evt.pos (by omega) (Evt.bindc (spec_tl _) (Evt.pos (by omega) (Evt.pos (by omega) (Evt.bindc (spec_tl _) (Evt.neg hc h1)))))))
   ·simp only [impl_LeastModel.l0]
    rw [vals_at all i hi',w64s (by omega)]
    exact Evt.pos (by omega) (Evt.pos (by omega) (Evt.pos (by omega) (Evt.pos (by simp) (Evt.bindc (impl_tl _) (Evt.bindc (impl_tl _) (Evt.neg hc h2))))))
theorem LeastModel_ev (ps:List S67) (hl:ps.length≤1048576) (hs:∀ y ∈ ps,CsSm y) (n:Int):∃ r,Evt (fun k=>impl_LeastModel.f k ps n) r∧Evt (fun k=>spec_LeastModel.f k ps n) r:=by
 obtain ⟨all,h1,h2,h3⟩:=ModelsUpTo_ev ps hl hs n
 simp only [spec_LeastModel.f,impl_LeastModel.f]
 by_cases h0:all.length=0
 ·refine ⟨((⟨#[]⟩:ByteArray),(⟨#[]⟩:ByteArray),(⟨#[]⟩:ByteArray),false),Evt.bind h1 (Evt.step ?_),Evt.bind h2 (Evt.step ?_)⟩
  ·simp only [impl_LeastModel.l0]
   exact Evt.neg (by omega) (Evt.ret _)
  ·simp only [spec_LeastModel.l0]
   exact Evt.neg (by omega) (Evt.pos (by omega) (Evt.ret _))
 ·have h0':0 < all.length:=by omega
  obtain ⟨r,r1,r2⟩:=least_some all h3 (all.length - 1) 1 (by omega) 0 h0'
  refine ⟨r,Evt.bind h1 (Evt.step ?_),Evt.bind h2 (Evt.step ?_)⟩
  ·simp only [impl_LeastModel.l0]
   rw [show (0:Int)=((0:Nat):Int) from rfl,vals_at all 0 h0',w64s (by omega)]
   exact Evt.pos (by omega) (Evt.pos (by omega) (Evt.pos (by omega) (Evt.neg (by decide) r2)))
  ·simp only [spec_LeastModel.l0]
   rw [show (0:Int)=((0:Nat):Int) from rfl,w64s (by omega)]
   exact Evt.pos (by omega) (Evt.pos (by omega) r1)
end Go.Proofs.YtffjfdoghofkdaaGreat.F
namespace Go.Proofs.YtffjfdoghofkdaaGreat.Pure
open Go Go.RowKit YtffjfdoghofkdaaGreatW.PrintWords YtffjfdoghofkdaaGreat.Pl YtffjfdoghofkdaaGreat.F YtffjfdoghofkdaaGreat.A YtffjfdoghofkdaaGreat.Ext YtffjfdoghofkdaaGreat.BtFnExactLeastModel
theorem rxOk_of (n:Nat):∀ x:S101,wf101N n x→RxOk n x:=by
 induction n with
 | zero=>intro x h;exact h.elim
 | succ n ih=>intro x h;exact ⟨h.2.1,h.2.2.1,fun a ha=>ih a (h.2.2.2 a ha)⟩
theorem csOk_of (x:S103) (h:wf103 x):CsOk x:=by
 obtain ⟨_,h1,h2,⟨n,h3⟩,h4,_⟩:=h
 exact ⟨h1,h2,⟨n,rxOk_of n _ h3⟩,h4.1⟩
theorem FnExactLeastModel:FnExactLeastModel.Pure:=by
 intro l n hl hn
 refine Evt.get (g:=fun k=>laws_FnExactLeastModel.f k l n) ?_
 simp only [laws_FnExactLeastModel.f]
 obtain ⟨t,ht,hs⟩:=szProblem_ev l hl.1 (fun x hx=>csOk_of x (hl.2 x hx)) 1048576 (by omega) (by omega)
 rcases hs with rfl|⟨h0,h1,ys,hv⟩
 ·exact Evt.bind ht (Evt.pos (by decide) (Evt.ret _))
 have q1:=toProblem_ev hv
 obtain ⟨r,r1,r2⟩:=LeastModel_ev ys hv.1 hv.2.1 n
 refine Evt.bind ht (Evt.neg (by omega) (Evt.bind q1 (Evt.bind r2 (Evt.bind q1 (Evt.bind r1 (Evt.bindc (a:=true) (by unfold laws_eqValues.f;simp) (Evt.pos rfl (Evt.step ?_))))))))
 simp only [laws_FnExactLeastModel.j0]
 exact Evt.neg (by simp) (Evt.bind q1 (Evt.bind (eqProblem_ev hv) (Evt.pos rfl (Evt.ret _))))
end Go.Proofs.YtffjfdoghofkdaaGreat.Pure
namespace Go.Proofs.YtffjfdoghofkdaaGreat.fnExactLeastModel
open Go.ChangeShapes Go.WideShapes Go.ChangeAt Go.RowKit YtffjfdoghofkdaaGreat.Br YtffjfdoghofkdaaGreatW.PrintWords YtffjfdoghofkdaaGreat.A YtffjfdoghofkdaaGreat.BtFnExactLeastModel
open Go.ChangeMaps (open_string shut_string)
theorem own:ownKnob Tryz.prog.godebug=none:=by kernel_rfl
theorem laidOut:laidOutB Tryz.prog=true:=by kernel_rfl
set_option maxHeartbeats 2000000 in
theorem lifted (os:Os) (started:os.Started) (H:Type) (enc:TypeId × Value→H) :
  ReturnsInHanded {} Tryz.checked os 5 .any (Rows.fnExactLeastModelSpec.pre6 enc Tryz.prog Tryz.f5 Rows.fnExactLeastModelRow.domain false) (Rows.fnExactLeastModelSpec.post enc Tryz.prog Tryz.f5 false true false false):=by
 refine returnsInHanded_of_change_sized (C:=Tryz.checked) own started (by kernel_rfl) Tryz.func5
  (ChangeSpec.witness6 (enc:=enc) (C:=Tryz.checked) false ⟨#[],#[.agg #[.slice none 0 0],.int .i64 0],[]⟩ 8 (by kernel_rfl) (by kernel_rfl) (by kernel_rfl) (by kernel_rfl)) ?_
 intro W base args ds gs before hval0 hW hcnd hsz0 _
 have hval:∀ (j:Nat) t v,Tryz.f5.params[j]? = some t→args[j]? = some v→Value.okWide Tryz.prog W .any base t v:=hval0
 have hW':=hW
 obtain ⟨p,q,hA0,hV,rfl,hfz,hnd⟩:=hW
 have hA:DataW.TrodAll enc Tryz.prog W 0 (fun _=>true) true Tryz.f5.params.toList args.toList ds p:=hA0
 rw [Tryz.params5] at hA hval
 obtain ⟨v0,vs0,d0,ds0,p0,q0,hargs,rfl,rfl,h0,r0⟩:=trodAll_cons hA
 obtain ⟨v1,vs1,d1,ds1,p1,q1,rfl,rfl,rfl,h1,r1⟩:=trodAll_cons r0
 obtain ⟨rfl,rfl,rfl⟩:=trodAll_nil r1
 obtain rfl:args = #[v0,v1]:=by cases args;simp_all
 obtain ⟨rfl,rfl⟩:=trodVars_none hV
 have k0:=h0
 have lt0:∀ x ∈ p0,x.block < W.heap.size:=by obtain ⟨m,hm⟩:=k0;exact DataW.trod_lt m _ _ _ hm
 obtain ⟨arr0,rfl,_,_⟩:∃ cs,v0 = .agg cs∧cs.size=Tryz.prog.cellsOf 42∧Row.okWide Tryz.prog W .any base 42 cs:=by have z:=(hval 0 42 v0 rfl rfl);unfold Value.okWide at z;rw [Tryz.underlying42] at z;exact z
 obtain ⟨fuel0,hf0⟩:=h0
 obtain ⟨l0_0,hK0,hw0⟩:=(show ∀ n,BrN Tryz.prog n 42 _ _ from fun n=>(br_struct' Tryz.underlying42 (show Tryz.prog.cellsOf 42=1 by kernel_rfl) (fun n=>(bf_one rfl (show Tryz.prog.cellsOf 40=1 by kernel_rfl) (br_slice' Tryz.underlying40 (show Tryz.prog.cellsOf 103=8 by kernel_rfl) (fun n=>(br103 n)) n))) n)) fuel0 H enc W 0 (fun _=>true) true fuel0 _ _ (Nat.le_refl _) hf0
 replace hw0:=hw0
 have w0_0:=hw0
 obtain ⟨cs0,hcs0,hK0⟩:∃ cs,(Value.agg arr0).cells.toList=cs∧_:=⟨_,rfl,hK0⟩
 obtain ⟨A0_0,c0_0,rfl,hc0_0,hr0_0⟩:=hK0
 obtain rfl:arr0 = #[.slice A0_0 l0_0.length c0_0]:=arr_of hcs0
 have k1:=h1
 have lt1:∀ x ∈ p1,x.block < W.heap.size:=by obtain ⟨m,hm⟩:=k1;exact DataW.trod_lt m _ _ _ hm
 obtain ⟨a1,rfl,rfl,rfl,w1⟩:=open_int Tryz.underlying3 (hval 1 3 v1 rfl rfl) h1
 clear hA0 hval0 hsz0
 obtain ⟨k,hp⟩:=Pure.FnExactLeastModel l0_0 a1 w0_0 w1
 refine (laws_FnExactLeastModel.calls k _ _ l0_0 a1 true W hr0_0 hc0_0 hp).mono fun e W' ⟨he,bel0⟩ => ?_
 subst he
 have bel:Below W.heap.size W W':=bel0
 exact ⟨_,rfl,_,_,_,[],_,[],hW',trodAll_mk1 (shut_bool Tryz.underlying4 _),(trodAll_cons_mk (Below.trod laidOut (by kernel_rfl) (of_decide_eq_true (by kernel_rfl)) k0 bel lt0) (trodAll_cons_mk (Below.trod laidOut (by kernel_rfl) (of_decide_eq_true (by kernel_rfl)) k1 bel lt1) trodAll_mk0)),rfl,bel.frame _,fun h=>by cases h⟩
theorem fact0:(Rows.fnExactLeastModelRow.inPlace == Tryz.pinned.checked.prog.inPlace 5)=true:=by kernel_rfl
theorem fact1:(Rows.fnExactLeastModelRow.unfollowed == Tryz.pinned.checked.prog.unfollowed 5)=true:=by kernel_rfl
theorem fact2:(Rows.fnExactLeastModelRow.recurses == Tryz.pinned.checked.prog.recurses 5)=true:=by kernel_rfl
theorem fact3:(Rows.fnExactLeastModelRow.named == Tryz.pinned.checked.prog.varsNamed 5)=true:=by kernel_rfl
theorem facts:joinedFacts Tryz.pinned.checked.prog 5 Tryz.f5 Rows.fnExactLeastModelSpec Rows.fnExactLeastModelRow=true:=by
 unfold joinedFacts
 rw [fact0,fact1,fact2,fact3]
 kernel_rfl
theorem known:Tryz.pinned.checked.prog.funcNamed Rows.fnExactLeastModelRow.func=some 5:=by kernel_rfl
theorem inst:Tryz.f5.isInstance Tryz.pinned.checked.prog Rows.fnExactLeastModelRow.origin Rows.fnExactLeastModelRow.targs:=of_decide_eq_true (by kernel_rfl)
theorem wrap:Tryz.f5.isWrapper Tryz.pinned.checked.prog Rows.fnExactLeastModelRow.wrapper Rows.fnExactLeastModelRow.mainSum:=by unfold Func.isWrapper;first|(rw [if_pos (by decide +kernel)];kernel_rfl)|(rw [if_neg (by decide +kernel)];exact ⟨rfl,rfl⟩)
theorem over:Rows.fnExactLeastModelRow.holds Tryz.pinned (OpenSpec.ofChange Rows.fnExactLeastModelSpec) :=
 OpenClaim.holds_of_wide 5 Tryz.f5 rfl rfl rfl rfl rfl rfl rfl ⟨rfl,rfl,rfl,rfl,rfl⟩ rfl rfl rfl rfl rfl known Tryz.func5 facts inst wrap
  (fun os started H enc _=>lifted os started H enc)
theorem proved:Rows.FnExactLeastModelSaid:=over
#print axioms proved
end Go.Proofs.YtffjfdoghofkdaaGreat.fnExactLeastModel
namespace Go.Proofs.YtffjfdoghofkdaaGreat
theorem fnExactLeastModel_holds:Rows.FnExactLeastModelSaid:=fnExactLeastModel.proved
end Go.Proofs.YtffjfdoghofkdaaGreat
