/- FnExactFormatProblemCard: what its proof needs, put together by this session's program wip/merge.py out of the texts that wip/xp.py printed and of this session's own. -/
import Derived.Test.YtdchpohiiigobaaDoorQFnExactFormatProblemCard5
import Derived.Lib.ItoaNum
import Derived.Test.YtdchpohiiigobaaDoorRows
import Derived.WalkKit
import Derived.ProofKit
import Derived.OpenShut
import Derived.ShutString
import Derived.ChangeOld
import Derived.Below
import Derived.SizedLaws
import Derived.Lib.SmallJoins
import Derived.LaidMore
import Derived.Stop.Joined
import Derived.Stop.LaidErr
import Derived.Lib.LaidTab
import Derived.MakeChecks
import Derived.Test.YtdchpohiiigobaaDoorCards
import Derived.Test.YtdchpohiiigobaaDoorTie
import Derived.SevenTiedAt
set_option linter.unusedVariables false
set_option linter.unusedSimpArgs false
set_option linter.unusedSectionVars false
set_option maxHeartbeats 8000000
set_option maxRecDepth 100000
namespace Go.Proofs.YtdchpohiiigobaaDoor.F
open Go.RowKit YtdchpohiiigobaaDoorW.PrintWords YtdchpohiiigobaaDoor.Pl YtdchpohiiigobaaDoor.A YtdchpohiiigobaaDoor.Ext
theorem impl_argsOf_ev (a:Int):Evt (fun k=>impl_argsOf.f k a) (if 1≤a∧a≤9 then (arN a:Int) else -1):=by
 refine ⟨3,fun k hk=>?_⟩
 obtain ⟨m,rfl⟩:∃ m,k=m+3:=⟨k - 3,by omega⟩
 have h:a=1∨a=2∨a=3∨a=4∨a=5∨a=6∨a=7∨a=8∨a=9∨¬ (1≤a∧a≤9):=by omega
 rcases h with rfl|rfl|rfl|rfl|rfl|rfl|rfl|rfl|rfl|h
 all_goals first
  | simp [impl_argsOf.f,impl_argsOf.j0,impl_argsOf.j1,arN,-Int.reduceNeg];done
  | skip
 rw [if_neg h]
 have e:∀ c:Int,1≤c→c≤9→¬ a=c:=fun c h1 h2 h3=>h (by omega)
 have eb:∀ c:Int,1≤c→c≤9→(a == c)=false:=fun c h1 h2=>by simpa using e c h1 h2
 simp [impl_argsOf.f,impl_argsOf.j0,impl_argsOf.j1,e 1,e 2,e 3,e 4,e 5,e 6,e 7,e 8,e 9,eb 4,eb 9]
theorem impl_nodesOf_j0t (v a:Int) (b:ByteArray) (l:List S32):Evt (fun k=>impl_nodesOf.j0 k v true a b l) 17:=by
 refine Evt.step ?_
 simp only [impl_nodesOf.j0]
 exact Evt.pos trivial (Evt.ret _)
theorem impl_nodesOf_l0 (n:Nat) (hn:n≤6) (l:List S32) (hl:l.length≤2) (ih:∀ x ∈ l,Evt (fun k=>impl_nodesOf.f k x.f0 x.f1 x.f2 (n:Int)) ((nds n x:Nat):Int)) :
  ∀ d i acc:Nat,i+d=l.length→acc≤1+17 * i→Evt (fun k=>impl_nodesOf.l0 k ((n+1:Nat):Int) (acc:Int) l (l.length:Int) (i:Int)) ((min (acc+((l.drop i).map (nds n)).sum) 17:Nat):Int):=by
 intro d
 induction d with
 | zero =>
  intro i acc hi ha
  refine Evt.step ?_
  simp only [impl_nodesOf.l0]
  refine Evt.neg (by omega) ((Evt.ret _).cast ?_)
  rw [List.drop_of_length_le (by omega)]
  simp only [mn,List.map_nil,List.sum_nil,Nat.add_zero]
  split <;> omega
 | succ d ihd =>
  intro i acc hi ha
  have hi':i < l.length:=by omega
  have hx:=nds_le n l[i]
  refine Evt.step ?_
  simp only [impl_nodesOf.l0]
  rw [rxI_at l i hi',w64s (by omega),w64 (x:=((n+1:Nat):Int) - 1) (by omega) (by omega),show ((n+1:Nat):Int) - 1=(n:Int) by omega]
  refine Evt.pos (by omega) (Evt.pos (by omega) (Evt.pos (by omega) (Evt.bind (ih _ (List.getElem_mem hi')) ?_)))
  rw [w64 (by omega) (by omega),show (acc:Int)+((nds n l[i]:Nat):Int)=((acc+nds n l[i]:Nat):Int) by omega]
  refine (ihd (i+1) (acc+nds n l[i]) (by omega) (by omega)).cast ?_
  rw [List.drop_eq_getElem_cons hi',List.map_cons,List.sum_cons,Nat.add_assoc]
theorem impl_nodesOf_ev (n:Nat):n≤6→∀ x:S32,Evt (fun k=>impl_nodesOf.f k x.f0 x.f1 x.f2 (n:Int)) ((nds n x:Nat):Int):=by
 induction n with
 | zero =>
  intro _ x
  refine Evt.step ?_
  simp only [impl_nodesOf.f]
  exact Evt.pos (by omega) ((impl_nodesOf_j0t _ _ _ _).cast (by simp [nds]))
 | succ n ih =>
  intro hn x
  refine Evt.step ?_
  simp only [impl_nodesOf.f]
  refine Evt.neg (by omega) (Evt.bind (impl_argsOf_ev _) ?_)
  unfold nds
  by_cases hlen:(x.f2.length:Int)=(if 1≤x.f0∧x.f0≤9 then (arN x.f0:Int) else -1)
  ·have e:((x.f2.length:Int) != (if 1≤x.f0∧x.f0≤9 then (arN x.f0:Int) else -1))=false:=by simp [hlen]
   rw [e]
   have hr:1≤x.f0∧x.f0≤9:=by
    by_cases hr:1≤x.f0∧x.f0≤9
    ·exact hr
    ·rw [if_neg hr] at hlen;omega
   rw [if_pos hr] at hlen
   have ha:=arN_le x.f0
   have hj1:Evt (fun k=>impl_nodesOf.j1 k ((n+1:Nat):Int) x.f0 x.f1 x.f2) ((min (1+(x.f2.map (nds n)).sum) 17:Nat):Int):=by
    refine Evt.step ?_
    simp only [impl_nodesOf.j1]
    have:=impl_nodesOf_l0 n (by omega) x.f2 (by omega) (fun y _=>ih (by omega) y) x.f2.length 0 1 (by omega) (by omega)
    simpa using this
   refine Evt.step ?_
   simp only [impl_nodesOf.j0]
   refine Evt.neg (by decide) ?_
   by_cases h3:x.f0=3
   ·refine Evt.pos h3 ?_
    have h0:x.f2.length=0:=by rw [h3] at hlen;simp [arN] at hlen;simp [hlen]
    by_cases h1:x.f1.size=1
    ·refine Evt.pos (by omega) (Evt.bind (impl_IsWord_ev _ (by omega)) ?_)
     cases hw:isW x.f1 with
     | true=>exact Evt.pos rfl (hj1.cast (by simp [kOk,h3,h1,hw,h0]))
     | false=>exact Evt.neg (by decide) ((Evt.ret _).cast (by simp [kOk,h3,h1,hw]))
    ·exact Evt.neg (by omega) ((Evt.ret _).cast (by simp [kOk,h3,h1]))
   ·refine Evt.neg h3 ?_
    by_cases h1:x.f1.size=0
    ·have h4:x.f2.length=arN x.f0:=by omega
     exact Evt.pos ((toList_nil_iff _).2 h1) (hj1.cast (by simp [kOk,h3,h1,hr,h4]))
    ·exact Evt.neg (fun h=>h1 ((toList_nil_iff _).1 h)) ((Evt.ret _).cast (by simp [kOk,h3,h1]))
  ·have e:((x.f2.length:Int) != (if 1≤x.f0∧x.f0≤9 then (arN x.f0:Int) else -1))=true:=bne_iff_ne.mpr hlen
   rw [e]
   refine (impl_nodesOf_j0t _ _ _ _).cast ?_
   rw [if_neg]
   ·rfl
   ·intro hk
    have:=kOk_len hk
    refine hlen ?_
    have hr:1≤x.f0∧x.f0≤9:=by
     unfold kOk at hk
     split at hk
     ·omega
     ·simp at hk;exact hk.1.1
    rw [if_pos hr];omega
theorem impl_IsValidRegex_ev (x:S32):Evt (fun k=>impl_IsValidRegex.f k x.f0 x.f1 x.f2) (decide (nds 6 x≤16)):=by
 simp only [impl_IsValidRegex.f]
 refine Evt.bind (impl_nodesOf_ev 6 (Nat.le_refl _) x) ((Evt.ret _).cast ?_)
 have e:(((nds 6 x:Nat):Int)≤16)=(nds 6 x≤16):=by apply propext;omega
 simp [e]
theorem spec_l3Left_ev (n:Nat):∀ x:S32,Ht n x→∀ v:Int,0≤v→v≤16→∃ r,Evt (fun k=>spec_l3Left.f k x.f0 x.f1 x.f2 v) r∧r≤16∧(if (siz n x:Int)≤v then r=v - siz n x else r < 0):=by
 induction n with
 | zero=>intro x h;exact h.elim
 | succ n ih =>
  rintro ⟨a,b,l⟩ ⟨hl,hm⟩ v h0 h1
  simp only at hl hm
  have hh:∀ d i:Nat,i+d=l.length→∀ u:Int,u≤16→∃ r,Evt (fun k=>spec_l3Left.l0 k u (i:Int) a b l) r∧r≤16∧(if ((((l.drop i).map (siz n)).sum:Nat):Int)≤u then r=u - (((l.drop i).map (siz n)).sum:Nat) else r < 0):=by
   intro d
   induction d with
   | zero =>
    intro i hi u hu
    refine ⟨u,Evt.step ?_,hu,?_⟩
    ·simp only [spec_l3Left.l0]
     exact Evt.neg (by omega) (Evt.ret _)
    ·rw [List.drop_of_length_le (by omega)]
     simp only [List.map_nil,List.sum_nil]
     split <;> omega
   | succ d ihd =>
    intro i hi u hu
    have hi':i < l.length:=by omega
    rw [List.drop_eq_getElem_cons hi',List.map_cons,List.sum_cons]
    by_cases hu0:u ≥ 0
    ·obtain ⟨r,hr,hr',hc⟩:=ih l[i] (hm _ (List.getElem_mem hi')) u hu0 hu
     obtain ⟨r2,hr2,hr2',hc2⟩:=ihd (i+1) (by omega) r hr'
     refine ⟨r2,Evt.step ?_,hr2',?_⟩
     ·simp only [spec_l3Left.l0]
      rw [rxI_at l i hi',w64s (by omega)]
      exact Evt.pos (by omega) (Evt.pos hu0 (Evt.pos (by omega) (Evt.bind hr hr2)))
     ·generalize (((l.drop (i+1)).map (siz n)).sum)=s at *
      generalize siz n l[i]=t at *
      split at hc <;> split at hc2 <;> split <;> omega
    ·refine ⟨u,Evt.step ?_,hu,?_⟩
     ·simp only [spec_l3Left.l0]
      exact Evt.pos (by omega) (Evt.neg hu0 (Evt.ret _))
     ·rw [if_neg (by omega)];omega
  obtain ⟨r,hr,hr',hc⟩:=hh l.length 0 (by omega) (v - 1) (by omega)
  refine ⟨r,Evt.step ?_,hr',?_⟩
  ·simp only [spec_l3Left.f]
   rw [w64 (by omega) (by omega)]
   exact hr
  ·rw [List.drop_zero] at hc
   have e:siz (n+1) (⟨a,b,l⟩:S32)=1+(l.map (siz n)).sum:=by simp [siz]
   by_cases hs:((siz (n+1) (⟨a,b,l⟩:S32):Nat):Int)≤v
   ·rw [if_pos hs]
    rw [if_pos (by omega)] at hc
    omega
   ·rw [if_neg hs]
    rw [if_neg (by omega)] at hc
    exact hc
theorem mem_sum {n:Nat} (l:List S32) (y:S32) (h:y ∈ l):siz n y≤(l.map (siz n)).sum:=by
 induction l with
 | nil=>cases h
 | cons x l ih =>
  rw [List.map_cons,List.sum_cons]
  rcases List.mem_cons.1 h with rfl|h
  ·omega
  ·have:=ih h;omega
theorem spec_l3Depth_ev (n:Nat):∀ x:S32,Ht n x→siz n x≤16→Evt (fun k=>spec_l3Depth.f k x.f0 x.f1 x.f2) (dep n x:Int):=by
 induction n with
 | zero=>intro x h;exact h.elim
 | succ n ih =>
  rintro ⟨a,b,l⟩ ⟨hl,hm⟩ hs
  simp only at hl hm
  simp only [siz] at hs
  have hx:∀ y ∈ l,siz n y≤16:=by
   intro y hy
   have:siz n y≤(l.map (siz n)).sum:=mem_sum l y hy
   omega
  have hh:∀ d i:Nat,i+d=l.length→∀ u:Nat,u≤16→Evt (fun k=>spec_l3Depth.l0 k (u:Int) (i:Int) a b l) ((max u (((l.drop i).map (dep n)).foldr max 0)+1:Nat):Int):=by
   intro d
   induction d with
   | zero =>
    intro i hi u hu
    refine Evt.step ?_
    simp only [spec_l3Depth.l0]
    rw [List.drop_of_length_le (by omega)]
    refine Evt.neg (by omega) ((Evt.ret _).cast ?_)
    rw [w64 (by omega) (by omega)]
    simp
   | succ d ihd =>
    intro i hi u hu
    have hi':i < l.length:=by omega
    have h1:=hx _ (List.getElem_mem hi')
    have h2:=dep_le_siz n l[i]
    refine Evt.step ?_
    simp only [spec_l3Depth.l0]
    rw [List.drop_eq_getElem_cons hi',List.map_cons,List.foldr_cons]
    rw [rxI_at l i hi',w64s (by omega)]
    refine Evt.pos (by omega) (Evt.pos (by omega) (Evt.bind (ih _ (hm _ (List.getElem_mem hi')) h1) (Evt.bindc (a:=((max u (dep n l[i]):Nat):Int)) ?_ ?_)))
    ·simp only [spec_l1Max.f]
     split
     ·congr 1;omega
     ·congr 1;omega
    ·refine (ihd (i+1) (by omega) (max u (dep n l[i])) (by omega)).cast ?_
     congr 1
     generalize ((l.drop (i+1)).map (dep n)).foldr max 0=z
     omega
  refine Evt.step ?_
  simp only [spec_l3Depth.f]
  refine (hh l.length 0 (by omega) 0 (by omega)).cast ?_
  simp [dep]
theorem spec_l3Args_ev (a:Int):Evt (fun k=>spec_l3Args.f k a) (arN a:Int):=by
 refine ⟨1,fun k hk=>?_⟩
 obtain ⟨m,rfl⟩:∃ m,k=m+1:=⟨k - 1,by omega⟩
 have h:a=5∨a=6∨a=7∨a=8∨a=9∨(a ≠ 5∧a ≠ 6∧a ≠ 7∧a ≠ 8∧a ≠ 9):=by omega
 rcases h with rfl|rfl|rfl|rfl|rfl|⟨h1,h2,h3,h4,h5⟩
 all_goals simp [spec_l3Args.f,spec_l3Args.j0,arN, *]
theorem spec_l3All_ev (n:Nat):∀ x:S32,Ht n x→Evt (fun k=>spec_l3All.f k x.f0 x.f1 x.f2) (alls n x):=by
 induction n with
 | zero=>intro x h;exact h.elim
 | succ n ih =>
  rintro ⟨a,b,l⟩ ⟨hl,hm⟩
  simp only at hl hm
  refine Evt.step ?_
  simp only [spec_l3All.f,alls]
  have hh:=Evt.up (fun k i=>spec_l3All.l0 k i a b l) l.length (fun i=>(l.drop i).all (alls n) && kOk a b l.length) ?_ ?_
  ·simpa using hh
  ·refine Evt.step ?_
   simp only [spec_l3All.l0]
   rw [List.drop_of_length_le (by omega)]
   refine Evt.neg (by omega) ?_
   simp only [List.all_nil,Bool.true_and]
   unfold kOk
   by_cases h3:a=3
   ·rw [if_pos h3]
    refine Evt.pos h3 ?_
    by_cases h1:b.size=1
    ·refine Evt.pos (by omega) (Evt.bind (spec_IsWord_ev _ (by omega)) ?_)
     cases hw:isW b with
     | true =>
      refine Evt.pos rfl ((Evt.ret _).cast ?_)
      have e:((l.length:Int) == 0)=decide (l.length=0):=by rw [show ((l.length:Int) == 0)=decide ((l.length:Int)=0) from rfl];congr 1;apply propext;omega
      simp [h1,e]
     | false=>exact Evt.neg (by decide) ((Evt.ret _).cast (by simp))
    ·exact Evt.neg (by omega) ((Evt.ret _).cast (by simp [h1]))
   ·rw [if_neg h3]
    refine Evt.neg h3 ?_
    by_cases hr:1≤a∧a≤9
    ·refine Evt.bindc (a:=true) (by simp [spec_l1In.f,hr.1,hr.2]) (Evt.pos rfl ?_)
     by_cases h1:b.size=0
     ·refine Evt.pos ((toList_nil_iff _).2 h1) (Evt.bind (spec_l3Args_ev _) ((Evt.ret _).cast ?_))
      have e:((l.length:Int) == (arN a:Int))=decide (l.length=arN a):=by rw [show ((l.length:Int) == (arN a:Int))=decide ((l.length:Int)=(arN a:Int)) from rfl];congr 1;apply propext;omega
      simp [h1,hr.1,hr.2,e]
     ·exact Evt.neg (fun h=>h1 ((toList_nil_iff _).1 h)) ((Evt.ret _).cast (by simp [h1]))
    ·refine Evt.bindc (a:=false) ?_ (Evt.neg (by decide) ((Evt.ret _).cast (by simp [hr])))
     simp only [spec_l1In.f]
     by_cases hr1:a ≥ 1
     ·rw [if_pos hr1];congr 1;simp;omega
     ·rw [if_neg hr1]
  ·intro i hi h
   refine Evt.step ?_
   simp only [spec_l3All.l0]
   rw [rxI_at l i hi,w64s (by omega),List.drop_eq_getElem_cons hi]
   refine Evt.pos (by omega) (Evt.pos (by omega) (Evt.bind (ih _ (hm _ (List.getElem_mem hi))) ?_))
   rw [List.all_cons]
   cases alls n l[i] with
   | true=>exact Evt.pos rfl (h.cast (by simp))
   | false=>exact Evt.neg (by decide) ((Evt.ret _).cast (by simp))
theorem spec_IsValidRegex_ev (x:S32) (h:Sm x):Evt (fun k=>spec_IsValidRegex.f k x.f0 x.f1 x.f2) (decide (nds 6 x≤16)):=by
 obtain ⟨n,hn⟩:=h.ht
 rw [nds_eq n x 6 hn]
 simp only [spec_IsValidRegex.f]
 obtain ⟨r,hr,_,hc⟩:=spec_l3Left_ev n x hn 16 (by omega) (by omega)
 refine Evt.bind hr ?_
 by_cases h1:siz n x≤16
 ·rw [if_pos (by omega)] at hc
  refine Evt.pos (by omega) (Evt.bind (spec_l3Depth_ev n x hn h1) ?_)
  by_cases h2:dep n x≤6
  ·refine Evt.pos (by omega) (Evt.bind (spec_l3All_ev n x hn) ((Evt.ret _).cast ?_))
   cases ha:alls n x <;> simp [h1,h2]
  ·exact Evt.neg (by omega) ((Evt.ret _).cast (by simp [h2]))
 ·rw [if_neg (by omega)] at hc
  exact Evt.neg (by omega) ((Evt.ret _).cast (by simp [h1]))
theorem eqRegex_ev (x:S32) (h:Sm x):Evt (fun k=>laws_eqRegex.f k x.f0 x.f1 x.f2 x.f0 x.f1 x.f2) true:=by
 induction h with
 | mk a b l hl hs _ ih =>
  refine Evt.step ?_
  simp only [laws_eqRegex.f]
  refine Evt2.diag (g:=fun i j=>laws_eqRegexG.f (fun _=>laws_eqRegex.f i) j a b l a b l) ?_
  simp only [laws_eqRegexG.f,laws_eqRegexSG.f]
  refine Evt2.pos trivial (Evt2.pos trivial (Evt2.bind2 (a:=true) (Evt2.pos trivial ?_) (Evt2.pos rfl (Evt2.ret _))))
  have hh:∀ d i:Nat,i+d=l.length→Evt2 (fun p q=>laws_eqRegexSG.l0 (fun _=>laws_eqRegex.f p) q l l (i:Int)) true:=by
   intro d
   induction d with
   | zero =>
    intro i hi
    refine Evt2.step ?_
    simp only [laws_eqRegexSG.l0]
    exact Evt2.neg (by omega) (Evt2.ret _)
   | succ d ihd =>
    intro i hi
    have hi':i < l.length:=by omega
    refine Evt2.step ?_
    simp only [laws_eqRegexSG.l0]
    rw [rxI_at l i hi',w64s (by omega)]
    exact Evt2.pos (by omega) (Evt2.pos (by omega) (Evt2.pos (by omega) (Evt2.bind (ih _ (List.getElem_mem hi')) (Evt2.pos rfl (ihd (i+1) (by omega))))))
  exact hh l.length 0 (by omega)
end Go.Proofs.YtdchpohiiigobaaDoor.F
namespace Go.Proofs.YtdchpohiiigobaaDoor.F
open Go.RowKit YtdchpohiiigobaaDoorW.PrintWords YtdchpohiiigobaaDoor.Pl YtdchpohiiigobaaDoor.A
theorem szIntS_eq (l:List Int) (a:Int) (ha : -1≤a) (ha':a≤1048576) (hl:l.length≤9223372036854775807) :
  ∃ t,laws_szIntS.f l a=some t∧(t = -1∨(0≤t∧t=a - l.length)):=by
 unfold laws_szIntS.f
 rw [w64_sub ha ha' hl]
 by_cases h1:a - l.length < 0
 ·exact ⟨-1,by rw [if_pos h1],.inl rfl⟩
 ·rw [if_neg h1];exact ⟨_,rfl,.inr ⟨by omega,rfl⟩⟩
theorem set_next (l:List Int) (i n:Nat) (hn:l.length=n) (hi:i < n):(l.take i ++ List.replicate (n - i) 0).set i (rd l (i:Int))=l.take (i+1) ++ List.replicate (n - (i+1)) 0:=by
 have hl:(l.take i).length=i:=by rw [List.length_take];omega
 have e:rd l (i:Int)=l[i]:=by simp [rd,show i < l.length by omega]
 rw [List.set_append_right _ _ (by omega),hl,Nat.sub_self,show n - i=(n - (i+1))+1 by omega,List.replicate_succ,zu,List.take_succ_eq_append_getElem (by omega),e,List.append_assoc]
 rfl
theorem toIntS_ev (l:List Int) (hl:l.length≤35184372088832):Evt (fun k=>laws_toIntS.f k l) l:=by
 simp only [laws_toIntS.f]
 refine Evt.pos (by omega) (Evt.pos (by omega) ?_)
 rw [Int.toNat_natCast]
 have h:∀ d i:Nat,i+d=l.length→Evt (fun k=>laws_toIntS.l0 k l (l.take i ++ List.replicate (l.length - i) 0) (i:Int)) l:=by
  intro d
  induction d with
  | zero =>
   intro i hi
   refine Evt.step ?_
   simp only [laws_toIntS.l0]
   refine Evt.neg (by omega) (Evt.const ?_)
   obtain rfl:i=l.length:=by omega
   simp
  | succ d ih =>
   intro i hi
   refine Evt.step ?_
   simp only [laws_toIntS.l0]
   rw [w64s (by omega),Int.toNat_natCast,set_next l i l.length rfl (by omega)]
   exact Evt.pos (by omega) (Evt.pos (by omega) (Evt.pos (by simp;omega) (ih (i+1) (by omega))))
 simpa using h l.length 0 (by omega)
theorem eqIntS_ev (l l':List Int) (hl:l.length≤9223372036854775807):Evt (fun k=>laws_eqIntS.f k l l') (decide (l=l')):=by
 simp only [laws_eqIntS.f]
 by_cases he:l.length=l'.length
 ·refine Evt.pos (by omega) ?_
  have h:=Evt.up (fun k i=>laws_eqIntS.l0 k l l' i) l.length (fun i=>decide (l.drop i=l'.drop i)) ?_ ?_
  ·simpa using h
  ·refine Evt.step ?_
   simp only [laws_eqIntS.l0]
   refine Evt.neg (by omega) (Evt.const ?_)
   rw [List.drop_of_length_le (Nat.le_refl _),List.drop_of_length_le (by omega)]
   rfl
  ·intro i hi h
   refine Evt.step ?_
   simp only [laws_eqIntS.l0]
   have hi':i < l'.length:=by omega
   refine Evt.pos (by omega) (Evt.pos (by omega) (Evt.pos (by omega) ?_))
   rw [List.drop_eq_getElem_cons hi,List.drop_eq_getElem_cons hi',w64s (by omega)]
   have e1:rd l (i:Int)=l[i]:=by simp [rd,hi]
   have e2:rd l' (i:Int)=l'[i]:=by simp [rd,hi']
   rw [e1,e2]
   by_cases hc:l[i]=l'[i]
   ·exact Evt.pos hc (h.cast (by rw [hc];simp only [List.cons.injEq,true_and]))
   ·exact Evt.neg hc (Evt.const (by rw [decide_eq_false (fun e=>hc (List.cons.inj e).1)]))
 ·refine Evt.neg (by omega) (Evt.const ?_)
  have:l ≠ l':=fun e=>he (by rw [e])
  simp [this]
end Go.Proofs.YtdchpohiiigobaaDoor.F
namespace Go.Proofs.YtdchpohiiigobaaDoor.F
open Go.RowKit YtdchpohiiigobaaDoorW.PrintWords YtdchpohiiigobaaDoor.Pl YtdchpohiiigobaaDoor.A YtdchpohiiigobaaDoor.Ext
def CpC (a:Int) (b c:ByteArray) (d:Int) (e:ByteArray) (l:List S24) (m:List Int) (n:Int) (y:List S32):Prop :=
 Sm ⟨d,e,y⟩∧m.length≤1048576∧Evt (fun k=>laws_toConstraint.f k a b c d e l m n) (a,b,c,d,e,y,m,n)
theorem szConstraint_ev (a:Int) (b c:ByteArray) (d:Int) (e:ByteArray) (l:List S24) (m:List Int) (n:Int) (N:Nat) (v:Int) (hv:0≤v) (hv':v≤1048576) (hb:b.size≤9223372036854775807) (hc:c.size≤9223372036854775807) (hr:RxOk N ⟨d,e,l⟩) (hm:m.length≤9223372036854775807) :
  ∃ t,Evt (fun k=>laws_szConstraint.f k a b c d e l m n v) t∧(t = -1∨(0≤t∧t≤v∧∃ y,CpC a b c d e l m n y)):=by
 simp only [laws_szConstraint.f]
 rw [w64_sub (by omega) (by omega) hb]
 by_cases c1:v - b.size < 0
 ·exact ⟨-1,Evt.pos c1 (Evt.ret _),.inl rfl⟩
 rw [w64_sub (by omega) (by omega) hc]
 by_cases c2:v - b.size - c.size < 0
 ·exact ⟨-1,Evt.neg c1 (Evt.pos c2 (Evt.ret _)),.inl rfl⟩
 obtain ⟨t,ht,h1⟩:=szRegex_ev N ⟨d,e,l⟩ hr (v - b.size - c.size) (by omega) (by omega)
 simp only at ht
 rcases h1 with rfl|⟨h1,h2,h3⟩
 ·exact ⟨-1,Evt.neg c1 (Evt.neg c2 (Evt.bind ht (Evt.pos (by decide) (Evt.ret _)))),.inl rfl⟩
 obtain ⟨u,hu,h4⟩:=szIntS_eq m t (by omega) (by omega) hm
 rcases h4 with rfl|⟨h4,h5⟩
 ·exact ⟨-1,Evt.neg c1 (Evt.neg c2 (Evt.bind ht (Evt.neg (by omega) (Evt.bindc hu (Evt.pos (by decide) (Evt.ret _)))))),.inl rfl⟩
 refine ⟨u,Evt.neg c1 (Evt.neg c2 (Evt.bind ht (Evt.neg (by omega) (Evt.bindc hu (Evt.neg (by omega) (Evt.ret _)))))),.inr ⟨h4,by omega,?_⟩⟩
 obtain ⟨⟨d',e',y⟩,hs,he⟩:=h3
 simp only at he
 have hde:d'=d∧e'=e:=by
  obtain ⟨K,hK⟩:=he
  have h6:=hK (K+1) (by omega)
  simp only [laws_toRegex.f,laws_toRegexG.f] at h6
  obtain ⟨z,_,h7⟩:=zo h6
  simp only [Option.some.injEq,Prod.mk.injEq] at h7
  exact ⟨h7.1.symm,h7.2.1.symm⟩
 obtain ⟨rfl,rfl⟩:=hde
 refine ⟨y,hs,by omega,?_⟩
 simp only [laws_toConstraint.f]
 exact Evt.bind he (Evt.bind (toIntS_ev m (by omega)) (Evt.ret _))
theorem eqConstraint_ev (a:Int) (b c:ByteArray) (d:Int) (e:ByteArray) (y:List S32) (m:List Int) (n:Int) (hy:Sm ⟨d,e,y⟩) (hm:m.length≤1048576):Evt (fun k=>laws_eqConstraint.f k a b c d e y m n a b c d e y m n) true:=by
 simp only [laws_eqConstraint.f]
 exact Evt.pos trivial (Evt.pos trivial (Evt.pos trivial (Evt.bind (eqRegex_ev _ hy) (Evt.pos rfl (Evt.bind (eqIntS_ev m m (by omega)) (Evt.pos (by simp) (Evt.pos trivial (Evt.ret _))))))))
def zR (d:Int) (e:ByteArray) (l:List S32):Bool:=decide (d=0) && decide (e.size=0) && ((l.length:Int) == 0)
theorem spec_l9Zero_eq (d:Int) (e:ByteArray) (l:List S32):spec_l9Zero.f d e l=some (zR d e l):=by
 unfold spec_l9Zero.f zR
 by_cases h1:d=0
 ·by_cases h2:e.size=0
  ·rw [if_pos h1,if_pos ((toList_nil_iff _).2 h2)];simp [h1,h2]
  ·rw [if_pos h1,if_neg (fun h=>h2 ((toList_nil_iff _).1 h))];simp [h2]
 ·rw [if_neg h1];simp [h1]
theorem impl_isZeroRegex_eq (d:Int) (e:ByteArray) (l:List S32):impl_isZeroRegex.f d e l=some (zR d e l):=by
 unfold impl_isZeroRegex.f zR
 by_cases h1:d=0
 ·by_cases h2:e.size=0
  ·rw [if_pos h1,if_pos ((toList_nil_iff _).2 h2)];simp [h1,h2]
  ·rw [if_pos h1,if_neg (fun h=>h2 ((toList_nil_iff _).1 h))];simp [h2]
 ·rw [if_neg h1];simp [h1]
def inR (a lo hi:Int):Bool:=decide (lo≤a∧a≤hi)
theorem spec_l1In_eq (a lo hi:Int):spec_l1In.f a lo hi=some (inR a lo hi):=by
 unfold spec_l1In.f inR
 by_cases h:a ≥ lo
 ·rw [if_pos h];congr 1;simp [show lo≤a from h]
 ·rw [if_neg h];congr 1;simp;omega
theorem impl_within_eq (a lo hi:Int):impl_within.f a lo hi=some (inR a lo hi):=by
 unfold impl_within.f inR
 by_cases h:a ≥ lo
 ·rw [if_pos h];congr 1;simp [show lo≤a from h]
 ·rw [if_neg h];congr 1;simp;omega
def cfs (m:List Int):Bool:=m.all fun c=>inR c (-9) 9
theorem rdI_at (m:List Int) (i:Nat) (h:i < m.length):rd m (i:Int)=m[i]:=by simp [rd,h]
theorem spec_l9Coeffs_ev (m:List Int) (hm:m.length≤1048576):Evt (fun k=>spec_l9Coeffs.f k m) (cfs m && ((m.length:Int) == 3)):=by
 have h:=Evt.up (fun k i=>spec_l9Coeffs.l0 k m i) m.length (fun i=>cfs (m.drop i) && ((m.length:Int) == 3)) ?_ ?_
 ·simpa [spec_l9Coeffs.f] using h
 ·refine Evt.step ?_
  simp only [spec_l9Coeffs.l0]
  rw [List.drop_of_length_le (by omega)]
  exact Evt.neg (by omega) ((Evt.ret _).cast (by simp [cfs]))
 ·intro i hi h
  refine Evt.step ?_
  simp only [spec_l9Coeffs.l0]
  rw [rdI_at m i hi,w64s (by omega),List.drop_eq_getElem_cons hi]
  refine Evt.pos (by omega) (Evt.pos (by omega) (Evt.bindc (spec_l1In_eq _ _ _) ?_))
  have e:cfs (m[i] :: m.drop (i+1))=(inR m[i] (-9) 9 && cfs (m.drop (i+1))):=rfl
  rw [e]
  cases inR m[i] (-9) 9 with
  | true=>exact Evt.pos rfl (h.cast (by simp))
  | false=>exact Evt.neg (by decide) ((Evt.ret _).cast (by simp))
theorem impl_coeffs_ev (m:List Int) (hm:m.length≤1048576):Evt (fun k=>slices_ContainsFunc_int_int.f k m) (!cfs m):=by
 simp only [slices_ContainsFunc_int_int.f,slices_IndexFunc_int_int.f]
 have h:∀ d i:Nat,i+d=m.length→∃ r,Evt (fun k=>slices_IndexFunc_int_int.l0 k m (m.length:Int) (i:Int)) r∧decide (r ≥ 0) = !cfs (m.drop i):=by
  intro d
  induction d with
  | zero =>
   intro i hi
   refine ⟨-1,Evt.step ?_,?_⟩
   ·simp only [slices_IndexFunc_int_int.l0]
    exact Evt.neg (by omega) (Evt.ret _)
   ·rw [List.drop_of_length_le (by omega)];rfl
  | succ d ih =>
   intro i hi
   have hi':i < m.length:=by omega
   have e:cfs (m[i] :: m.drop (i+1))=(inR m[i] (-9) 9 && cfs (m.drop (i+1))):=rfl
   rw [List.drop_eq_getElem_cons hi',e]
   obtain ⟨r,hr,hc⟩:=ih (i+1) (by omega)
   cases hq:inR m[i] (-9) 9 with
   | true =>
    refine ⟨r,Evt.step ?_,by simpa using hc⟩
    simp only [slices_IndexFunc_int_int.l0,impl_IsValidConstraint_1.f]
    rw [rdI_at m i hi',w64s (by omega)]
    exact Evt.pos (by omega) (Evt.pos (by omega) (Evt.pos (by omega) (Evt.bind (Evt.bindc (impl_within_eq _ _ _) (Evt.ret _)) (Evt.neg (by simp [hq]) hr))))
   | false =>
    refine ⟨(i:Int),Evt.step ?_,by simp⟩
    simp only [slices_IndexFunc_int_int.l0,impl_IsValidConstraint_1.f]
    rw [rdI_at m i hi']
    exact Evt.pos (by omega) (Evt.pos (by omega) (Evt.pos (by omega) (Evt.bind (Evt.bindc (impl_within_eq _ _ _) (Evt.ret _)) (Evt.pos (by simp [hq]) (Evt.ret _)))))
 obtain ⟨r,hr,hc⟩:=h m.length 0 (by omega)
 exact Evt.bind hr ((Evt.ret _).cast (by rw [hc];rfl))
def valX (x:Bool) (a:Int) (b c:ByteArray) (d:Int) (e:ByteArray) (l:List S32) (m:List Int) (n:Int):Bool :=
 if a=1∨a=2 then isTm b && (isTm c && (zR d e l && x))
 else if a=3∨a=4 then isTm b && (decide (c.size=0) && (decide (nds 6 ⟨d,e,l⟩≤16) && x))
 else if a=5 then decide (b.size=0) && (decide (c.size=0) && (zR d e l && ((cfs m && ((m.length:Int) == 3)) && inR n (-99) 99)))
 else false
def valC (a:Int) (b c:ByteArray) (d:Int) (e:ByteArray) (l:List S32) (m:List Int) (n:Int):Bool :=
 valX (decide (m.length=0) && (n == 0)) a b c d e l m n
section
variable {a : Int} {b c : ByteArray} {d : Int} {e : ByteArray} {l : List S32} {m : List Int} {n : Int}
theorem and_ev {g h:Nat→Option Bool} {p q:Bool} (hg:Evt g p) (hh:p=true→Evt h q):Evt (fun k=>(g k).bind fun t=>if t=true then h k else some false) (p && q):=by
 refine Evt.bind hg ?_
 cases p with
 | true=>exact Evt.pos rfl ((hh rfl).cast (by simp))
 | false=>exact Evt.neg (by decide) ((Evt.ret _).cast (by simp))
theorem nil_ev {s:ByteArray} {h:Nat→Option Bool} {q:Bool} (hh:s.size=0→Evt h q):Evt (fun k=>if s.toList=([]:List UInt8) then h k else some false) (decide (s.size=0) && q):=by
 by_cases hs:s.size=0
 ·exact Evt.pos ((toList_nil_iff _).2 hs) ((hh hs).cast (by simp [hs]))
 ·exact Evt.neg (fun h=>hs ((toList_nil_iff _).1 h)) ((Evt.ret _).cast (by simp [hs]))
theorem last_ev {g:Nat→Option Bool} {p:Bool} (hg:Evt g p):Evt (fun k=>(g k).bind fun t=>some t) p:=Evt.bind hg (Evt.ret _)
theorem spec_j1t (x:Bool) (v:Int) (hb:b.size≤9223372036854775807) (hc:c.size≤9223372036854775807):Evt (fun k=>spec_IsValidConstraint.j1 k x v true a b c d e l m n) (isTm b && (isTm c && (zR d e l && x))):=by
 refine Evt.step ?_
 simp only [spec_IsValidConstraint.j1]
 exact Evt.pos trivial (and_ev (spec_IsTerm_ev b hb) fun _=>and_ev (spec_IsTerm_ev c hc) fun _=>and_ev (Evt.const (spec_l9Zero_eq d e l)) fun _=>Evt.ret _)
theorem spec_j2t (x:Bool) (v:Int) (hb:b.size≤9223372036854775807) (hr:Sm ⟨d,e,l⟩):Evt (fun k=>spec_IsValidConstraint.j2 k x v true a b c d e l m n) (isTm b && (decide (c.size=0) && (decide (nds 6 ⟨d,e,l⟩≤16) && x))):=by
 refine Evt.step ?_
 simp only [spec_IsValidConstraint.j2]
 exact Evt.pos trivial (and_ev (spec_IsTerm_ev b hb) fun _=>nil_ev fun _=>and_ev (spec_IsValidRegex_ev ⟨d,e,l⟩ hr) fun _=>Evt.ret _)
theorem spec_IsValidConstraint_ev (hb:b.size≤9223372036854775807) (hc:c.size≤9223372036854775807) (hr:Sm ⟨d,e,l⟩) (hm:m.length≤1048576):Evt (fun k=>spec_IsValidConstraint.f k a b c d e l m n) (valC a b c d e l m n):=by
 have hj:∀ x:Bool,Evt (fun k=>spec_IsValidConstraint.j0 k x a b c d e l m n) (valX x a b c d e l m n):=by
  intro x
  refine Evt.step ?_
  simp only [spec_IsValidConstraint.j0]
  unfold valX
  by_cases h1:a=1
  ·subst h1;exact Evt.pos rfl ((spec_j1t x _ hb hc).cast (by simp))
  refine Evt.neg h1 ?_
  by_cases h2:a=2
  ·subst h2;exact (spec_j1t x _ hb hc).cast (by simp)
  rw [show (a == 2)=false by simpa using h2,if_neg (by omega)]
  refine Evt.step ?_
  simp only [spec_IsValidConstraint.j1]
  refine Evt.neg (by decide) ?_
  by_cases h3:a=3
  ·subst h3;exact Evt.pos rfl ((spec_j2t x _ hb hr).cast (by simp))
  refine Evt.neg h3 ?_
  by_cases h4:a=4
  ·subst h4;exact (spec_j2t x _ hb hr).cast (by simp)
  rw [show (a == 4)=false by simpa using h4,if_neg (by omega)]
  refine Evt.step ?_
  simp only [spec_IsValidConstraint.j2]
  refine Evt.neg (by decide) ?_
  by_cases h5:a=5
  ·rw [if_pos h5]
   exact Evt.pos h5 (nil_ev fun _=>nil_ev fun _=>and_ev (Evt.const (spec_l9Zero_eq d e l)) fun _=>and_ev (spec_l9Coeffs_ev m hm) fun _=>last_ev (Evt.const (spec_l1In_eq _ _ _)))
  ·rw [if_neg h5]
   exact Evt.neg h5 (Evt.ret _)
 simp only [spec_IsValidConstraint.f]
 unfold valC
 by_cases h0:m.length=0
 ·exact Evt.pos (by omega) ((hj _).cast (by simp [h0]))
 ·exact Evt.neg (by omega) ((hj _).cast (by simp [h0]))
theorem impl_j1t (v:Int):Evt (fun k=>impl_IsValidConstraint.j1 k v true a b c d e l m n) (isTm b && (isTm c && (zR d e l))):=by
 refine Evt.step ?_
 simp only [impl_IsValidConstraint.j1]
 exact Evt.pos trivial (and_ev (impl_IsTerm_ev b) fun _=>and_ev (impl_IsTerm_ev c) fun _=>last_ev (Evt.const (impl_isZeroRegex_eq d e l)))
theorem impl_j2t (v:Int):Evt (fun k=>impl_IsValidConstraint.j2 k v true a b c d e l m n) (isTm b && (decide (c.size=0) && (decide (nds 6 ⟨d,e,l⟩≤16)))):=by
 refine Evt.step ?_
 simp only [impl_IsValidConstraint.j2]
 exact Evt.pos trivial (and_ev (impl_IsTerm_ev b) fun _=>nil_ev fun _=>last_ev (impl_IsValidRegex_ev ⟨d,e,l⟩))
theorem impl_j0t:Evt (fun k=>impl_IsValidConstraint.j0 k true a b c d e l m n) false:=by
 refine Evt.step ?_
 simp only [impl_IsValidConstraint.j0]
 exact Evt.pos trivial (Evt.ret _)
theorem impl_IsValidConstraint_ev (hm:m.length≤1048576):Evt (fun k=>impl_IsValidConstraint.f k a b c d e l m n) (valC a b c d e l m n):=by
 have hj:Evt (fun k=>impl_IsValidConstraint.j0 k false a b c d e l m n) (valX true a b c d e l m n):=by
  refine Evt.step ?_
  simp only [impl_IsValidConstraint.j0]
  unfold valX
  refine Evt.neg (by decide) ?_
  by_cases h1:a=1
  ·subst h1;exact Evt.pos rfl ((impl_j1t _).cast (by simp))
  refine Evt.neg h1 ?_
  by_cases h2:a=2
  ·subst h2;exact (impl_j1t _).cast (by simp)
  rw [show (a == 2)=false by simpa using h2,if_neg (by omega)]
  refine Evt.step ?_
  simp only [impl_IsValidConstraint.j1]
  refine Evt.neg (by decide) ?_
  by_cases h3:a=3
  ·subst h3;exact Evt.pos rfl ((impl_j2t _).cast (by simp))
  refine Evt.neg h3 ?_
  by_cases h4:a=4
  ·subst h4;exact (impl_j2t _).cast (by simp)
  rw [show (a == 4)=false by simpa using h4,if_neg (by omega)]
  refine Evt.step ?_
  simp only [impl_IsValidConstraint.j2]
  refine Evt.neg (by decide) ?_
  by_cases h5:a=5
  ·rw [if_pos h5]
   refine Evt.pos h5 (nil_ev fun _=>nil_ev fun _=>and_ev (Evt.const (impl_isZeroRegex_eq d e l)) fun _=>?_)
   by_cases h3':m.length=3
   ·refine Evt.pos (by omega) ?_
    rw [show ((m.length:Int) == 3)=true by simp [h3'],Bool.and_true,Bool.and_comm (cfs m)]
    exact and_ev (Evt.const (impl_within_eq _ _ _)) fun _=>Evt.bind (impl_coeffs_ev m hm) ((Evt.ret _).cast (by simp))
   ·refine Evt.neg (by omega) ((Evt.ret _).cast ?_)
    have e3:((m.length:Int) == 3)=false:=by simp;omega
    simp [e3]
  ·rw [if_neg h5]
   exact Evt.neg h5 (Evt.ret _)
 simp only [impl_IsValidConstraint.f]
 unfold valC
 have hx:∀ x,a=5→valX x a b c d e l m n=valX true a b c d e l m n:=by
  intro x h;subst h;simp [valX]
 have hy:¬ a=5→valX false a b c d e l m n=false:=by
  intro h;unfold valX;simp [h]
 by_cases h5:a=5
 ·exact Evt.pos h5 (hj.cast (hx _ h5).symm)
 refine Evt.neg h5 ?_
 by_cases h0:m.length=0
 ·refine Evt.pos (by omega) ?_
  by_cases hn:n=0
  ·rw [show (n != 0)=false by simp [hn]]
   exact hj.cast (by simp [h0,hn])
  ·rw [show (n != 0)=true by simp [hn]]
   exact impl_j0t.cast (by rw [show (n == 0)=false by simp [hn]];simp [hy h5])
 ·exact Evt.neg (by omega) (impl_j0t.cast (by simp [h0,hy h5]))
end
end Go.Proofs.YtdchpohiiigobaaDoor.F
namespace Go.Proofs.YtdchpohiiigobaaDoor.F
open Go Go.RowKit YtdchpohiiigobaaDoorW.PrintWords YtdchpohiiigobaaDoor.Pl YtdchpohiiigobaaDoor.A YtdchpohiiigobaaDoor.Ext
def nmB (l:List UInt8):List Int:=l.map fun b=>(b.toNat:Int)
theorem strOfNums_nmB (l:List UInt8):strOfNums (nmB l)=⟨l.toArray⟩:=by
 simp [strOfNums,nmB,List.map_map,Function.comp_def]
def jn (s:ByteArray):List ByteArray→Bool→List Int→Option (List Int)
 | [],_,acc=>some acc
 | x :: l,fst,acc =>
  if ((if fst=true then acc else acc ++ bytesOf s) ++ bytesOf x).length > 1048576 then none else jn s l false ((if fst=true then acc else acc ++ bytesOf s) ++ bytesOf x)
def outJ (o:Option (List Int)):ByteArray:=match o with|some a=>strOfNums a|none=>(⟨#[]⟩:ByteArray)
def joinP (l:List ByteArray) (s:ByteArray):ByteArray:=outJ (jn s l true [])
theorem jn_tail (s:ByteArray) (l:List ByteArray):∀ (acc a:List Int),acc.length≤1048576→jn s l false acc=some a→a=acc ++ nmB (Lib.joinTail s.data.toList (l.map (·.data.toList)))∧a.length≤1048576:=by
 induction l with
 | nil =>
  intro acc a ha h
  simp only [jn,Option.some.injEq] at h
  subst h
  exact ⟨by simp [Lib.joinTail,nmB],ha⟩
 | cons x l ih =>
  intro acc a ha h
  simp only [jn,Bool.false_eq_true,if_false] at h
  split at h
  ·cases h
  ·next hl =>
   obtain ⟨h1,h2⟩:=ih _ _ (by omega) h
   refine ⟨?_,h2⟩
   rw [h1]
   simp [Lib.joinTail,nmB,bytesOf]
theorem jn_all (s:ByteArray) (l:List ByteArray) (a:List Int) (h:jn s l true []=some a):a=nmB (Lib.join (l.map (·.data.toList)) s.data.toList)∧a.length≤1048576:=by
 cases l with
 | nil =>
  simp only [jn,Option.some.injEq] at h
  subst h
  exact ⟨rfl,by decide⟩
 | cons x l =>
  simp only [jn,if_true,List.nil_append] at h
  split at h
  ·cases h
  ·next hl =>
   obtain ⟨h1,h2⟩:=jn_tail s l _ _ (by omega) h
   refine ⟨?_,h2⟩
   rw [h1,List.map_cons,Lib.join_cons]
   simp [nmB,bytesOf]
theorem jn_strings (s:ByteArray) (l:List ByteArray) (hl:l.length≤1048576) (a:List Int) (h:jn s l true []=some a):strings_Join.f l s=some (strOfNums a):=by
 obtain ⟨h1,h2⟩:=jn_all s l a h
 have h3:(Lib.join (l.map (·.data.toList)) s.data.toList).length≤1048576:=by
  rw [h1] at h2
  simpa [nmB] using h2
 unfold strings_Join.f
 rw [if_pos ⟨by omega,by omega⟩,h1,strOfNums_nmB]
 rfl
theorem rdS_at (l:List ByteArray) (i:Nat) (h:i < l.length):rdOf ByteArray.empty l (i:Int)=l[i]:=by simp [rdOf,h]
theorem impl_Join_ev (l:List ByteArray) (s:ByteArray) (hl:l.length≤1048576) (hs:s.size≤1048576) (hx:∀ x ∈ l,x.size≤2097152):Evt (fun k=>impl_Join.f k l s) (joinP l s):=by
 have hh:∀ d i:Nat,i+d=l.length→∀ acc:List Int,acc.length≤1048576→(∀ a,jn s (l.drop i) (decide (i=0)) acc=some a→jn s l true []=some a)→Evt (fun k=>impl_Join.l0 k l s (acc.length:Int) l (l.length:Int) (i:Int)) (outJ (jn s (l.drop i) (decide (i=0)) acc)):=by
  intro d
  induction d with
  | zero =>
   intro i hi acc ha hg
   refine Evt.step ?_
   simp only [impl_Join.l0]
   rw [List.drop_of_length_le (by omega)] at hg ⊢
   refine Evt.neg (by omega) (Evt.bindc (jn_strings s l hl acc (hg acc rfl)) (Evt.ret _))
  | succ d ih =>
   intro i hi acc ha hg
   have hi':i < l.length:=by omega
   have hxi:=hx _ (List.getElem_mem hi')
   refine Evt.step ?_
   simp only [impl_Join.l0]
   rw [List.drop_eq_getElem_cons hi'] at hg ⊢
   rw [rdS_at l i hi',w64s (by omega)]
   simp only [jn] at hg ⊢
   refine Evt.pos (by omega) (Evt.pos (by omega) (Evt.pos (by omega) ?_))
   by_cases h0:i=0
   ·have hd:decide (i=0)=true:=by simpa using h0
    simp only [if_pos hd] at hg ⊢
    refine Evt.neg (by omega) ?_
    have hn:=ih (i+1) (by omega) (acc ++ bytesOf l[i])
    have hq:wrap64 ((acc.length:Int)+(l[i].size:Int))=((acc ++ bytesOf l[i]).length:Int):=by
     rw [w64 (by omega) (by omega),List.length_append,bytesOf_length]
     omega
    rw [hq]
    by_cases hc:(acc ++ bytesOf l[i]).length > 1048576
    ·rw [if_pos hc]
     exact Evt.pos (by omega) (Evt.ret _)
    ·rw [if_neg hc] at hg ⊢
     exact Evt.neg (by omega) (hn (by omega) hg)
   ·have hd:¬ (decide (i=0)=true):=by simpa using h0
    simp only [if_neg hd] at hg ⊢
    refine Evt.pos (by omega) ?_
    have hn:=ih (i+1) (by omega) (acc ++ bytesOf s ++ bytesOf l[i])
    have hq:wrap64 (wrap64 ((acc.length:Int)+(s.size:Int))+(l[i].size:Int))=((acc ++ bytesOf s ++ bytesOf l[i]).length:Int):=by
     rw [w64 (x:=(acc.length:Int)+(s.size:Int)) (by omega) (by omega),w64 (by omega) (by omega),List.length_append,List.length_append,bytesOf_length,bytesOf_length]
     omega
    rw [hq]
    by_cases hc:(acc ++ bytesOf s ++ bytesOf l[i]).length > 1048576
    ·rw [if_pos hc]
     exact Evt.pos (by omega) (Evt.ret _)
    ·rw [if_neg hc] at hg ⊢
     exact Evt.neg (by omega) (hn (by omega) hg)
 exact hh l.length 0 (by omega) [] (by simp) (fun a h=>h)
theorem evt_mono {α:Type} {g:Nat→Option α} (hm:∀ k,LeO (g k) (g (k+1))) {K:Nat} {r:α} (h:g K=some r):Evt g r:=by
 refine ⟨K,fun k hk=>?_⟩
 obtain ⟨d,rfl⟩:∃ d,k=K+d:=⟨k - K,by omega⟩
 clear hk
 induction d with
 | zero=>exact h
 | succ d ih=>exact hm _ r ih
def dg2 (u:Nat):List UInt8:=if u < 10 then [UInt8.ofNat (48+u)] else [UInt8.ofNat (48+u / 10),UInt8.ofNat (48+u % 10)]
def fmtN (n:Int):ByteArray:=⟨(if n < 0 then 45 :: dg2 n.natAbs else dg2 n.toNat).toArray⟩
theorem dg2_eq {u:Nat} (h:u < 100):Lib.decDigits u=dg2 u:=by
 unfold dg2
 by_cases h1:u < 10
 ·rw [if_pos h1,Lib.decDigits_one h1]
 ·rw [if_neg h1,Lib.decDigits_two h1 h]
theorem inR_99 {n:Int} (h:inR n (-99) 99=true) : -99≤n∧n≤99:=by simpa [inR] using h
theorem itoaB_eq {n:Int} (h:inR n (-99) 99=true):itoaB n=fmtN n:=by
 have h':=inR_99 h
 unfold itoaB fmtN Lib.itoa
 rw [dg2_eq (by omega),dg2_eq (by omega)]
theorem num_ok:∀ i:Fin 199,spec_FormatInt.f 9 ((i.1:Int) - 99)=some (fmtN ((i.1:Int) - 99))∧(fmtN ((i.1:Int) - 99)).size≤3:=by decide +kernel
theorem num_at {n:Int} (h:inR n (-99) 99=true):spec_FormatInt.f 9 n=some (fmtN n)∧(fmtN n).size≤3:=by
 have h':=inR_99 h
 have:=num_ok ⟨(n+99).toNat,by omega⟩
 rwa [show (((n+99).toNat:Nat):Int) - 99=n by omega] at this
theorem spec_FormatInt_ev {n:Int} (h:inR n (-99) 99=true):Evt (fun k=>spec_FormatInt.f k n) (fmtN n) :=
 evt_mono (fun k=>spec_FormatInt.mono n k) (num_at h).1
theorem impl_FormatInt_eq {n:Int} (h:inR n (-99) 99=true):impl_FormatInt.f n=some (fmtN n):=by
 have h':=inR_99 h
 unfold impl_FormatInt.f strconv_Itoa_51.f
 rw [if_pos (by omega),itoaB_eq h]
 rfl
theorem kOk_kind {a:Int} {b:ByteArray} {n:Nat} (h:kOk a b n=true):(a=3∧b.size=1)∨((a=1∨a=2∨a=4∨a=5∨a=6∨a=7∨a=8∨a=9)∧n=arN a):=by
 unfold kOk at h
 split at h
 ·next e=>subst e;simp at h;exact .inl ⟨rfl,h.1.1⟩
 ·simp at h;exact .inr ⟨by omega,h.2⟩
theorem sizes2 (p q s:ByteArray):(p ++ q ++ s).size=p.size+q.size+s.size:=by rw [ByteArray.size_append,ByteArray.size_append]
theorem nat_le_sum (l:List Nat) (x:Nat) (h:x ∈ l):x≤l.sum:=by
 induction l with
 | nil=>cases h
 | cons y l ih =>
  rw [List.sum_cons]
  rcases List.mem_cons.1 h with rfl|h
  ·omega
  ·have:=ih h;omega
theorem text_ev:∀ (d:Nat),d≤6→∀ (x:S32),nds d x≤16→∃ t:ByteArray,t.size≤3 * 4 ^ d∧Evt (fun k=>spec_l3Text.f k x.f0 x.f1 x.f2) t∧Evt (fun k=>impl_regexText.f k x.f0 x.f1 x.f2) t:=by
 intro d
 induction d with
 | zero=>intro _ x h;simp [nds] at h
 | succ d ih =>
  intro hd x h
  obtain ⟨a,b,l⟩:=x
  unfold nds at h
  by_cases hk:kOk a b l.length=true
  rotate_left
  ·rw [if_neg hk] at h;omega
  rw [if_pos hk] at h
  have h1:1≤4 ^ d:=Nat.pow_pos (by decide)
  have h2:4 ^ d≤1024:=Nat.le_trans (Nat.pow_le_pow_right (by decide) (by omega:d≤5)) (by decide)
  have h3:(4:Nat) ^ (d+1)=4 * 4 ^ d:=by rw [Nat.pow_succ];omega
  have hm:∀ (i:Nat) (hi:i < l.length),∃ t:ByteArray,t.size≤3 * 4 ^ d∧Evt (fun k=>spec_l3Text.f k l[i].f0 l[i].f1 l[i].f2) t∧Evt (fun k=>impl_regexText.f k l[i].f0 l[i].f1 l[i].f2) t:=by
   intro i hi
   refine ih (by omega) l[i] ?_
   have:nds d l[i]≤(l.map (nds d)).sum:=nat_le_sum _ _ (List.mem_map_of_mem (List.getElem_mem hi))
   simp only at h
   omega
  simp only
  rcases kOk_kind hk with ⟨rfl,hb⟩|⟨hc,hn⟩
  ·refine ⟨b,by omega,Evt.step ?_,Evt.step ?_⟩ <;> simp only [spec_l3Text.f,impl_regexText.f]
   ·exact Evt.neg (by decide) (Evt.neg (by decide) (Evt.pos (by decide) (Evt.ret _)))
   ·exact Evt.neg (by decide) (Evt.neg (by decide) (Evt.pos (by decide) (Evt.ret _)))
  rcases hc with rfl|rfl|rfl|rfl|rfl|rfl|rfl|rfl
  ·refine ⟨⟨#[48]⟩,by show 1≤_;omega,Evt.step ?_,Evt.step ?_⟩ <;> simp only [spec_l3Text.f,impl_regexText.f] <;> exact Evt.pos (by decide) (Evt.ret _)
  ·refine ⟨⟨#[49]⟩,by show 1≤_;omega,Evt.step ?_,Evt.step ?_⟩ <;> simp only [spec_l3Text.f,impl_regexText.f] <;> exact Evt.neg (by decide) (Evt.pos (by decide) (Evt.ret _))
  ·refine ⟨⟨#[46]⟩,by show 1≤_;omega,Evt.step ?_,Evt.step ?_⟩ <;> simp only [spec_l3Text.f,impl_regexText.f] <;> exact Evt.neg (by decide) (Evt.neg (by decide) (Evt.neg (by decide) (Evt.pos (by decide) (Evt.ret _))))
  ·have hl:l.length=2:=hn
   obtain ⟨t,ht,hs,hi⟩:=hm 0 (by omega)
   obtain ⟨u,hu,hs',hi'⟩:=hm 1 (by omega)
   have e0:=rxI_at l 0 (by omega)
   have e1:=rxI_at l 1 (by omega)
   refine ⟨(((⟨#[40]⟩ ++ t) ++ (⟨#[]⟩:ByteArray)) ++ u) ++ (⟨#[41]⟩:ByteArray),?_,Evt.step ?_,Evt.step ?_⟩
   ·simp only [ByteArray.size_append,show (⟨#[40]⟩:ByteArray).size=1 from rfl,show (⟨#[]⟩:ByteArray).size=0 from rfl,show (⟨#[41]⟩:ByteArray).size=1 from rfl];omega
   ·simp only [spec_l3Text.f]
    rw [show wrap64 (5 - 5)=0 from w64 (by decide) (by decide)]
    refine Evt.neg (by decide) (Evt.neg (by decide) (Evt.neg (by decide) (Evt.neg (by decide) (Evt.neg (by decide) (Evt.neg (by decide) (Evt.bindc rfl (Evt.pos (by decide) (Evt.pos (by decide) (Evt.pos (by omega) ?_)))))))))
    rw [show rd_T32 l 0=l[0] from e0,show rd_T32 l 1=l[1] from e1,show rdOf ByteArray.empty [(⟨#[]⟩:ByteArray),(⟨#[124]⟩:ByteArray),(⟨#[38]⟩:ByteArray)] 0=(⟨#[]⟩:ByteArray) from rfl]
    refine Evt.bind hs (Evt.pos (by omega) (Evt.pos ?_ (Evt.pos (by omega) (Evt.bind hs' (Evt.pos ?_ (Evt.pos ?_ (Evt.ret _))))))) <;> simp only [ByteArray.size_append,show (⟨#[40]⟩:ByteArray).size=1 from rfl,show (⟨#[]⟩:ByteArray).size=0 from rfl] <;> omega
   ·simp only [impl_regexText.f]
    refine Evt.neg (by decide) (Evt.neg (by decide) (Evt.neg (by decide) (Evt.neg (by decide) (Evt.neg (by decide) (Evt.neg (by decide) (Evt.neg (by decide) (Evt.neg (by decide) (Evt.pos (by omega) ?_))))))))
    rw [show rd_T32 l 0=l[0] from e0,show rd_T32 l 1=l[1] from e1]
    refine Evt.bind hi (Evt.pos (by omega) (Evt.pos ?_ (Evt.pos (by omega) (Evt.bind hi' (Evt.pos ?_ (Evt.pos ?_ (Evt.ret _))))))) <;> simp only [ByteArray.size_append,show (⟨#[40]⟩:ByteArray).size=1 from rfl,show (⟨#[]⟩:ByteArray).size=0 from rfl] <;> omega
  ·have hl:l.length=2:=hn
   obtain ⟨t,ht,hs,hi⟩:=hm 0 (by omega)
   obtain ⟨u,hu,hs',hi'⟩:=hm 1 (by omega)
   have e0:=rxI_at l 0 (by omega)
   have e1:=rxI_at l 1 (by omega)
   refine ⟨(((⟨#[40]⟩ ++ t) ++ (⟨#[124]⟩:ByteArray)) ++ u) ++ (⟨#[41]⟩:ByteArray),?_,Evt.step ?_,Evt.step ?_⟩
   ·simp only [ByteArray.size_append,show (⟨#[40]⟩:ByteArray).size=1 from rfl,show (⟨#[124]⟩:ByteArray).size=1 from rfl,show (⟨#[41]⟩:ByteArray).size=1 from rfl];omega
   ·simp only [spec_l3Text.f]
    rw [show wrap64 (6 - 5)=1 from w64 (by decide) (by decide)]
    refine Evt.neg (by decide) (Evt.neg (by decide) (Evt.neg (by decide) (Evt.neg (by decide) (Evt.neg (by decide) (Evt.neg (by decide) (Evt.bindc rfl (Evt.pos (by decide) (Evt.pos (by decide) (Evt.pos (by omega) ?_)))))))))
    rw [show rd_T32 l 0=l[0] from e0,show rd_T32 l 1=l[1] from e1,show rdOf ByteArray.empty [(⟨#[]⟩:ByteArray),(⟨#[124]⟩:ByteArray),(⟨#[38]⟩:ByteArray)] 1=(⟨#[124]⟩:ByteArray) from rfl]
    refine Evt.bind hs (Evt.pos (by omega) (Evt.pos ?_ (Evt.pos (by omega) (Evt.bind hs' (Evt.pos ?_ (Evt.pos ?_ (Evt.ret _))))))) <;> simp only [ByteArray.size_append,show (⟨#[40]⟩:ByteArray).size=1 from rfl,show (⟨#[124]⟩:ByteArray).size=1 from rfl] <;> omega
   ·simp only [impl_regexText.f]
    refine Evt.neg (by decide) (Evt.neg (by decide) (Evt.neg (by decide) (Evt.neg (by decide) (Evt.neg (by decide) (Evt.neg (by decide) (Evt.pos (by decide) (Evt.pos (by omega) ?_)))))))
    rw [show rd_T32 l 0=l[0] from e0,show rd_T32 l 1=l[1] from e1]
    refine Evt.bind hi (Evt.pos (by omega) (Evt.pos ?_ (Evt.pos (by omega) (Evt.bind hi' (Evt.pos ?_ (Evt.pos ?_ (Evt.ret _))))))) <;> simp only [ByteArray.size_append,show (⟨#[40]⟩:ByteArray).size=1 from rfl,show (⟨#[124]⟩:ByteArray).size=1 from rfl] <;> omega
  ·have hl:l.length=2:=hn
   obtain ⟨t,ht,hs,hi⟩:=hm 0 (by omega)
   obtain ⟨u,hu,hs',hi'⟩:=hm 1 (by omega)
   have e0:=rxI_at l 0 (by omega)
   have e1:=rxI_at l 1 (by omega)
   refine ⟨(((⟨#[40]⟩ ++ t) ++ (⟨#[38]⟩:ByteArray)) ++ u) ++ (⟨#[41]⟩:ByteArray),?_,Evt.step ?_,Evt.step ?_⟩
   ·simp only [ByteArray.size_append,show (⟨#[40]⟩:ByteArray).size=1 from rfl,show (⟨#[38]⟩:ByteArray).size=1 from rfl,show (⟨#[41]⟩:ByteArray).size=1 from rfl];omega
   ·simp only [spec_l3Text.f]
    rw [show wrap64 (7 - 5)=2 from w64 (by decide) (by decide)]
    refine Evt.neg (by decide) (Evt.neg (by decide) (Evt.neg (by decide) (Evt.neg (by decide) (Evt.neg (by decide) (Evt.neg (by decide) (Evt.bindc rfl (Evt.pos (by decide) (Evt.pos (by decide) (Evt.pos (by omega) ?_)))))))))
    rw [show rd_T32 l 0=l[0] from e0,show rd_T32 l 1=l[1] from e1,show rdOf ByteArray.empty [(⟨#[]⟩:ByteArray),(⟨#[124]⟩:ByteArray),(⟨#[38]⟩:ByteArray)] 2=(⟨#[38]⟩:ByteArray) from rfl]
    refine Evt.bind hs (Evt.pos (by omega) (Evt.pos ?_ (Evt.pos (by omega) (Evt.bind hs' (Evt.pos ?_ (Evt.pos ?_ (Evt.ret _))))))) <;> simp only [ByteArray.size_append,show (⟨#[40]⟩:ByteArray).size=1 from rfl,show (⟨#[38]⟩:ByteArray).size=1 from rfl] <;> omega
   ·simp only [impl_regexText.f]
    refine Evt.neg (by decide) (Evt.neg (by decide) (Evt.neg (by decide) (Evt.neg (by decide) (Evt.neg (by decide) (Evt.neg (by decide) (Evt.neg (by decide) (Evt.pos (by decide) (Evt.pos (by omega) ?_))))))))
    rw [show rd_T32 l 0=l[0] from e0,show rd_T32 l 1=l[1] from e1]
    refine Evt.bind hi (Evt.pos (by omega) (Evt.pos ?_ (Evt.pos (by omega) (Evt.bind hi' (Evt.pos ?_ (Evt.pos ?_ (Evt.ret _))))))) <;> simp only [ByteArray.size_append,show (⟨#[40]⟩:ByteArray).size=1 from rfl,show (⟨#[38]⟩:ByteArray).size=1 from rfl] <;> omega
  ·have hl:l.length=1:=hn
   obtain ⟨t,ht,hs,hi⟩:=hm 0 (by omega)
   have e0:=rxI_at l 0 (by omega)
   refine ⟨⟨#[42]⟩ ++ t,by rw [ByteArray.size_append];show 1+_≤_;omega,Evt.step ?_,Evt.step ?_⟩ <;> simp only [spec_l3Text.f,impl_regexText.f] <;> rw [show rd_T32 l 0=l[0] from e0]
   ·exact Evt.neg (by decide) (Evt.neg (by decide) (Evt.neg (by decide) (Evt.neg (by decide) (Evt.pos (by decide) (Evt.pos (by omega) (Evt.bind hs (Evt.pos (by omega) (Evt.ret _))))))))
   ·exact Evt.neg (by decide) (Evt.neg (by decide) (Evt.neg (by decide) (Evt.neg (by decide) (Evt.pos (by decide) (Evt.pos (by omega) (Evt.bind hi (Evt.pos (by omega) (Evt.ret _))))))))
  ·have hl:l.length=1:=hn
   obtain ⟨t,ht,hs,hi⟩:=hm 0 (by omega)
   have e0:=rxI_at l 0 (by omega)
   refine ⟨⟨#[33]⟩ ++ t,by rw [ByteArray.size_append];show 1+_≤_;omega,Evt.step ?_,Evt.step ?_⟩ <;> simp only [spec_l3Text.f,impl_regexText.f] <;> rw [show rd_T32 l 0=l[0] from e0]
   ·exact Evt.neg (by decide) (Evt.neg (by decide) (Evt.neg (by decide) (Evt.neg (by decide) (Evt.neg (by decide) (Evt.pos (by decide) (Evt.pos (by omega) (Evt.bind hs (Evt.pos (by omega) (Evt.ret _)))))))))
   ·exact Evt.neg (by decide) (Evt.neg (by decide) (Evt.neg (by decide) (Evt.neg (by decide) (Evt.neg (by decide) (Evt.pos (by decide) (Evt.pos (by omega) (Evt.bind hi (Evt.pos (by omega) (Evt.ret _)))))))))
theorem FormatRegex_ev (x:S32) (h:nds 6 x≤16) (hs:Sm x):∃ t:ByteArray,t.size≤12288∧Evt (fun k=>spec_FormatRegex.f k x.f0 x.f1 x.f2) t∧Evt (fun k=>impl_FormatRegex.f k x.f0 x.f1 x.f2) t:=by
 obtain ⟨t,ht,h1,h2⟩:=text_ev 6 (Nat.le_refl _) x h
 refine ⟨t,ht,?_,?_⟩
 ·simp only [spec_FormatRegex.f]
  exact Evt.bind (spec_IsValidRegex_ev x hs) (Evt.pos (by simpa using h) (Evt.bind h1 (Evt.ret _)))
 ·simp only [impl_FormatRegex.f]
  exact Evt.bind (impl_IsValidRegex_ev x) (Evt.pos (by simpa using h) (Evt.bind h2 (Evt.ret _)))
theorem strOf_bytes (s:ByteArray):strOfNums (bytesOf s)=s:=by
 apply bytesOf_inj
 unfold strOfNums bytesOf
 simp
def tl:List Int→ByteArray→ByteArray
 | [],o=>o
 | x :: ws,o=>tl ws ((o ++ (⟨#[32]⟩:ByteArray)) ++ fmtN x)
theorem tl_size (ws:List Int):(∀ x ∈ ws,inR x (-99) 99=true)→∀ o,(tl ws o).size≤o.size+4 * ws.length:=by
 induction ws with
 | nil=>intro _ o;exact Nat.le_refl _
 | cons y ws ih =>
  intro h o
  have h1:=ih (fun x hx=>h x (List.mem_cons_of_mem _ hx)) ((o ++ (⟨#[32]⟩:ByteArray)) ++ fmtN y)
  have h2:=(num_at (h y List.mem_cons_self)).2
  rw [sizes2,show (⟨#[32]⟩:ByteArray).size=1 from rfl] at h1
  show (tl ws _).size≤_
  rw [List.length_cons]
  omega
theorem jn_tl (ws:List Int):(∀ x ∈ ws,inR x (-99) 99=true)→∀ o:ByteArray,o.size+4 * ws.length≤1048576→jn (⟨#[32]⟩:ByteArray) (ws.map fmtN) false (bytesOf o)=some (bytesOf (tl ws o)):=by
 induction ws with
 | nil=>intro _ o _;rfl
 | cons y ws ih =>
  intro h o ho
  have h2:=(num_at (h y List.mem_cons_self)).2
  rw [List.length_cons] at ho
  have e:bytesOf o ++ bytesOf (⟨#[32]⟩:ByteArray) ++ bytesOf (fmtN y)=bytesOf ((o ++ (⟨#[32]⟩:ByteArray)) ++ fmtN y):=by rw [bytesOf_append,bytesOf_append]
  have hz:((o ++ (⟨#[32]⟩:ByteArray)) ++ fmtN y).size=o.size+1+(fmtN y).size:=sizes2 _ _ _
  show (if ((if false=true then bytesOf o else bytesOf o ++ bytesOf (⟨#[32]⟩:ByteArray)) ++ bytesOf (fmtN y)).length > 1048576 then none else jn (⟨#[32]⟩:ByteArray) (ws.map fmtN) false ((if false=true then bytesOf o else bytesOf o ++ bytesOf (⟨#[32]⟩:ByteArray)) ++ bytesOf (fmtN y)))=_
  rw [if_neg (show ¬ (false=true) by decide),e,bytesOf_length,if_neg (by omega)]
  exact ih (fun x hx=>h x (List.mem_cons_of_mem _ hx)) _ (by omega)
theorem joinP_tl (ws:List Int) (h:∀ x ∈ ws,inR x (-99) 99=true) (o:ByteArray) (ho:o.size+4 * ws.length≤1048576):joinP (o :: ws.map fmtN) (⟨#[32]⟩:ByteArray)=tl ws o:=by
 unfold joinP
 show outJ (if ((if true=true then [] else _) ++ bytesOf o).length > 1048576 then none else jn (⟨#[32]⟩:ByteArray) (ws.map fmtN) false ((if true=true then [] else _) ++ bytesOf o))=_
 rw [if_pos rfl,List.nil_append,bytesOf_length,if_neg (by omega),jn_tl ws h o ho]
 show strOfNums (bytesOf (tl ws o))=_
 exact strOf_bytes _
section
variable {a : Int} {b c : ByteArray} {d : Int} {e : ByteArray} {l : List S32} {m : List Int} {n : Int}
theorem spec_len_ev (hm:m.length≤1048576) (hx:∀ x ∈ m,inR x (-99) 99=true) (hn:inR n (-99) 99=true) (o:ByteArray) (ho:o.size≤1048576):Evt (fun k=>spec_FormatConstraint.l0 k o 0 a b c d e l m n) (tl (m ++ [n]) o):=by
 have hh:∀ q i:Nat,i+q=m.length→∀ o:ByteArray,o.size≤1048576+4 * i→Evt (fun k=>spec_FormatConstraint.l0 k o (i:Int) a b c d e l m n) (tl (m.drop i ++ [n]) o):=by
  intro q
  induction q with
  | zero =>
   intro i hi o ho
   have h3:=(num_at hn).2
   refine Evt.step ?_
   simp only [spec_FormatConstraint.l0]
   rw [List.drop_of_length_le (by omega)]
   refine Evt.neg (by omega) (Evt.pos (by omega) (Evt.bind (spec_FormatInt_ev hn) (Evt.pos ?_ (Evt.ret _))))
   rw [ByteArray.size_append,show (⟨#[32]⟩:ByteArray).size=1 from rfl];omega
  | succ q ih =>
   intro i hi o ho
   have hi':i < m.length:=by omega
   have h2:=hx _ (List.getElem_mem hi')
   have h3:=(num_at h2).2
   refine Evt.step ?_
   simp only [spec_FormatConstraint.l0]
   rw [List.drop_eq_getElem_cons hi',rdI_at m i hi',w64s (by omega)]
   refine Evt.pos (by omega) (Evt.pos (by omega) (Evt.pos (by omega) (Evt.bind (spec_FormatInt_ev h2) (Evt.pos ?_ ?_))))
   ·rw [ByteArray.size_append,show (⟨#[32]⟩:ByteArray).size=1 from rfl];omega
   ·refine ih (i+1) (by omega) _ ?_
    rw [sizes2,show (⟨#[32]⟩:ByteArray).size=1 from rfl];omega
 exact hh m.length 0 (by omega) o ho
theorem impl_len_ev (ws:List Int) (hw:ws.length≤1000) (hx:∀ x ∈ ws,inR x (-99) 99=true) (o:ByteArray) (ho:o.size≤100):Evt (fun k=>impl_FormatConstraint.l0 k [o] ws (ws.length:Int) 0) (tl ws o):=by
 have hh:∀ q i:Nat,i+q=ws.length→Evt (fun k=>impl_FormatConstraint.l0 k (o :: (ws.take i).map fmtN) ws (ws.length:Int) (i:Int)) (tl ws o):=by
  intro q
  induction q with
  | zero =>
   intro i hi
   refine Evt.step ?_
   simp only [impl_FormatConstraint.l0]
   rw [List.take_of_length_le (by omega)]
   refine Evt.neg (by omega) (Evt.bind ((impl_Join_ev _ _ ?_ (by decide) ?_).cast (joinP_tl ws hx o (by omega))) (Evt.ret _))
   ·simp only [List.length_cons,List.length_map];omega
   ·intro x hx'
    rcases List.mem_cons.1 hx' with rfl|h
    ·omega
    ·obtain ⟨y,hy,rfl⟩:=List.mem_map.1 h
     have:=(num_at (hx y hy)).2
     omega
  | succ q ih =>
   intro i hi
   have hi':i < ws.length:=by omega
   refine Evt.step ?_
   simp only [impl_FormatConstraint.l0]
   rw [rdI_at ws i hi',w64s (by omega)]
   refine Evt.pos (by omega) (Evt.pos (by omega) (Evt.pos (by omega) (Evt.bindc (impl_FormatInt_eq (hx _ (List.getElem_mem hi'))) (Evt.bindc rfl (Evt.pos ?_ ?_)))))
   ·simp only [List.length_cons,List.length_map,List.length_take,List.length_nil];omega
   ·have h:=ih (i+1) (by omega)
    rw [List.take_succ_eq_append_getElem hi',List.map_append] at h
    exact h
 exact hh ws.length 0 (by omega)
def trm (s:ByteArray):ByteArray:=if s.size=0 then (⟨#[45]⟩:ByteArray) else s
theorem trm_size (s:ByteArray):(trm s).size≤s.size+1:=by
 unfold trm
 split
 ·exact Nat.le_add_left _ _
 ·omega
theorem spec_l9Term_eq (s:ByteArray):spec_l9Term.f s=some (trm s):=by
 unfold spec_l9Term.f trm
 by_cases h:s.size=0
 ·rw [if_pos ((toList_nil_iff _).2 h),if_pos h]
 ·rw [if_neg (fun q=>h ((toList_nil_iff _).1 q)),if_neg h]
theorem impl_orDash_eq (s:ByteArray):impl_orDash.f s=some (trm s):=by
 unfold impl_orDash.f trm
 by_cases h:s.size=0
 ·rw [if_pos ((toList_nil_iff _).2 h),if_pos h]
 ·rw [if_neg (fun q=>h ((toList_nil_iff _).1 q)),if_neg h]
theorem both {g g':Nat→Option Bool} {h h':Nat→Option ByteArray} {z:Option ByteArray} (hg:Evt g true) (hg':Evt g' true) (H:∃ t:ByteArray,t.size≤20000∧Evt h t∧Evt h' t) :
  ∃ t:ByteArray,t.size≤20000∧Evt (fun k=>(g k).bind fun t=>if t=true then h k else z) t∧Evt (fun k=>(g' k).bind fun t=>if t=true then h' k else z) t:=by
 obtain ⟨t,ht,h1,h2⟩:=H
 exact ⟨t,ht,Evt.bind hg (Evt.pos rfl h1),Evt.bind hg' (Evt.pos rfl h2)⟩
theorem FormatConstraint_ev (hb:b.size≤9223372036854775807) (hc:c.size≤9223372036854775807) (hr:Sm ⟨d,e,l⟩) (hm:m.length≤1048576):∃ t:ByteArray,t.size≤20000∧Evt (fun k=>spec_FormatConstraint.f k a b c d e l m n) t∧Evt (fun k=>impl_FormatConstraint.f k a b c d e l m n) t:=by
 simp only [spec_FormatConstraint.f,impl_FormatConstraint.f]
 have hv:=spec_IsValidConstraint_ev (a:=a) (n:=n) hb hc hr hm
 have hv':=impl_IsValidConstraint_ev (a:=a) (b:=b) (c:=c) (d:=d) (e:=e) (l:=l) (n:=n) hm
 cases hV:valC a b c d e l m n with
 | false =>
  rw [hV] at hv hv'
  exact ⟨⟨#[]⟩,by decide,Evt.bind hv (Evt.neg (by decide) (Evt.ret _)),Evt.bind hv' (Evt.neg (by decide) (Evt.ret _))⟩
 | true =>
  rw [hV] at hv hv'
  have tb:=trm_size b
  have tc:=trm_size c
  refine both hv hv' ?_
  unfold valC valX at hV
  by_cases h12:a=1∨a=2
  ·rw [if_pos h12] at hV
   simp only [isTm,Bool.and_eq_true,decide_eq_true_eq,beq_iff_eq] at hV
   obtain ⟨⟨_,z1⟩,⟨_,z2⟩,_⟩:=hV
   rcases h12 with rfl|rfl
   ·refine ⟨trm b ++ (⟨#[32,61,32]⟩:ByteArray) ++ trm c,?_,Evt.pos rfl (Evt.bindc (spec_l9Term_eq b) (Evt.pos ?_ (Evt.bindc (spec_l9Term_eq c) (Evt.pos ?_ (Evt.ret _))))),Evt.pos rfl (Evt.bindc (impl_orDash_eq b) (Evt.pos ?_ (Evt.bindc (impl_orDash_eq c) (Evt.pos ?_ (Evt.ret _)))))⟩ <;> (try simp only [ByteArray.size_append,show (⟨#[32,61,32]⟩:ByteArray).size=3 from rfl]) <;> omega
   ·refine ⟨trm b ++ (⟨#[32,33,61,32]⟩:ByteArray) ++ trm c,?_,Evt.neg (by decide) (Evt.pos rfl (Evt.bindc (spec_l9Term_eq b) (Evt.pos ?_ (Evt.bindc (spec_l9Term_eq c) (Evt.pos ?_ (Evt.ret _)))))),Evt.neg (by decide) (Evt.pos rfl (Evt.bindc (impl_orDash_eq b) (Evt.pos ?_ (Evt.bindc (impl_orDash_eq c) (Evt.pos ?_ (Evt.ret _))))))⟩ <;> (try simp only [ByteArray.size_append,show (⟨#[32,33,61,32]⟩:ByteArray).size=4 from rfl]) <;> omega
  rw [if_neg h12] at hV
  by_cases h34:a=3∨a=4
  ·rw [if_pos h34] at hV
   simp only [isTm,Bool.and_eq_true,decide_eq_true_eq,beq_iff_eq] at hV
   obtain ⟨⟨_,z1⟩,_,z2,_⟩:=hV
   obtain ⟨t,ht,r1,r2⟩:=FormatRegex_ev ⟨d,e,l⟩ z2 hr
   rcases h34 with rfl|rfl
   ·refine ⟨trm b ++ (⟨#[32,105,110,32]⟩:ByteArray) ++ t,?_,Evt.neg (by decide) (Evt.neg (by decide) (Evt.pos rfl (Evt.bindc (spec_l9Term_eq b) (Evt.pos ?_ (Evt.bind r1 (Evt.pos ?_ (Evt.ret _))))))),Evt.neg (by decide) (Evt.neg (by decide) (Evt.pos rfl (Evt.bindc (impl_orDash_eq b) (Evt.pos ?_ (Evt.bind r2 (Evt.pos ?_ (Evt.ret _)))))))⟩ <;> (try simp only [ByteArray.size_append,show (⟨#[32,105,110,32]⟩:ByteArray).size=4 from rfl]) <;> omega
   ·refine ⟨trm b ++ (⟨#[32,111,117,116,32]⟩:ByteArray) ++ t,?_,Evt.neg (by decide) (Evt.neg (by decide) (Evt.neg (by decide) (Evt.pos rfl (Evt.bindc (spec_l9Term_eq b) (Evt.pos ?_ (Evt.bind r1 (Evt.pos ?_ (Evt.ret _)))))))),Evt.neg (by decide) (Evt.neg (by decide) (Evt.neg (by decide) (Evt.pos rfl (Evt.bindc (impl_orDash_eq b) (Evt.pos ?_ (Evt.bind r2 (Evt.pos ?_ (Evt.ret _))))))))⟩ <;> (try simp only [ByteArray.size_append,show (⟨#[32,111,117,116,32]⟩:ByteArray).size=5 from rfl]) <;> omega
  rw [if_neg h34] at hV
  by_cases h5:a=5
  rotate_left
  ·rw [if_neg h5] at hV;cases hV
  rw [if_pos h5] at hV
  simp only [Bool.and_eq_true,decide_eq_true_eq,beq_iff_eq] at hV
  obtain ⟨_,_,_,⟨q1,q2⟩,q3⟩:=hV
  have hx:∀ x ∈ m,inR x (-99) 99=true:=by
   intro x hx
   have:=List.all_eq_true.1 q1 x hx
   simp only [inR,decide_eq_true_eq] at this ⊢
   omega
  have hx':∀ x ∈ m ++ [n],inR x (-99) 99=true:=by
   intro x h
   rcases List.mem_append.1 h with h|h
   ·exact hx x h
   ·obtain rfl:=List.mem_singleton.1 h;exact q3
  have hlen:(m ++ [n]).length=4:=by rw [List.length_append];show m.length+1=4;omega
  have hz:=tl_size (m ++ [n]) hx' (⟨#[108,101,110]⟩:ByteArray)
  rw [hlen,show (⟨#[108,101,110]⟩:ByteArray).size=3 from rfl] at hz
  refine ⟨tl (m ++ [n]) (⟨#[108,101,110]⟩:ByteArray),by omega,?_,?_⟩
  ·exact Evt.neg (by omega) (Evt.neg (by omega) (Evt.neg (by omega) (Evt.neg (by omega) (spec_len_ev hm hx q3 _ (by decide)))))
  ·refine Evt.neg (by omega) (Evt.neg (by omega) (Evt.neg (by omega) (Evt.neg (by omega) (Evt.bindc (a:=m) ?_ (Evt.bindc rfl (Evt.pos ?_ (Evt.bindc rfl (impl_len_ev (m ++ [n]) (by omega) hx' _ (by decide)))))))))
   ·unfold slices_Clone_int_int.f;rw [if_pos (by omega)]
   ·show m.length+1 < _;omega
end
end Go.Proofs.YtdchpohiiigobaaDoor.F
namespace Go.Proofs.YtdchpohiiigobaaDoor.F
open Go.RowKit YtdchpohiiigobaaDoorW.PrintWords YtdchpohiiigobaaDoor.Pl YtdchpohiiigobaaDoor.A YtdchpohiiigobaaDoor.Ext
theorem csL_at (l:List S27) (i:Nat) (h:i < l.length):rd_T27 l (i:Int)=l[i]:=by simp [rd_T27,h]
theorem csI_at (l:List S34) (i:Nat) (h:i < l.length):rd_T34 l (i:Int)=l[i]:=by simp [rd_T34,h]
theorem rxL_eta (y:S24):(⟨y.f0,y.f1,y.f2⟩:S24)=y:=by cases y;rfl
def CsOk (x:S27):Prop:=x.f1.size≤9223372036854775807∧x.f2.size≤9223372036854775807∧(∃ n,RxOk n x.f3)∧x.f4.length≤9223372036854775807
def CsSm (y:S34):Prop:=Sm y.f3∧y.f4.length≤1048576∧y.f1.size≤1048576∧y.f2.size≤1048576
def CpK (x:S27) (y:S34):Prop:=CsSm y∧Evt (fun k=>laws_toConstraint.f k x.f0 x.f1 x.f2 x.f3.f0 x.f3.f1 x.f3.f2 x.f4 x.f5) (y.f0,y.f1,y.f2,y.f3.f0,y.f3.f1,y.f3.f2,y.f4,y.f5)
theorem csI_eta (y:S34):(⟨y.f0,y.f1,y.f2,(⟨y.f3.f0,y.f3.f1,y.f3.f2⟩:S32),y.f4,y.f5⟩:S34)=y:=by
 have h:=rx_eta y.f3
 rw [h]
theorem szCs_ev (x:S27) (h:CsOk x) (v:Int) (hv:0≤v) (hv':v≤1048576):∃ t,Evt (fun k=>laws_szConstraint.f k x.f0 x.f1 x.f2 x.f3.f0 x.f3.f1 x.f3.f2 x.f4 x.f5 v) t∧(t = -1∨(0≤t∧t≤v∧∃ y,CpK x y)):=by
 obtain ⟨h1,h2,⟨N,h3⟩,h4⟩:=h
 by_cases c1:v - x.f1.size < 0
 ·refine ⟨-1,?_,.inl rfl⟩
  simp only [laws_szConstraint.f]
  rw [w64_sub (by omega) (by omega) h1]
  exact Evt.pos c1 (Evt.ret _)
 by_cases c2:v - x.f1.size - x.f2.size < 0
 ·refine ⟨-1,?_,.inl rfl⟩
  simp only [laws_szConstraint.f]
  rw [w64_sub (by omega) (by omega) h1,w64_sub (by omega) (by omega) h2]
  exact Evt.neg c1 (Evt.pos c2 (Evt.ret _))
 obtain ⟨t,ht,hc⟩:=szConstraint_ev x.f0 x.f1 x.f2 x.f3.f0 x.f3.f1 x.f3.f2 x.f4 x.f5 N v hv hv' h1 h2 (by rw [rxL_eta];exact h3) h4
 refine ⟨t,ht,hc.imp id ?_⟩
 rintro ⟨g1,g2,y,y1,y2,y3⟩
 exact ⟨g1,g2,⟨x.f0,x.f1,x.f2,⟨x.f3.f0,x.f3.f1,y⟩,x.f4,x.f5⟩,⟨y1,y2,show x.f1.size≤1048576 by omega,show x.f2.size≤1048576 by omega⟩,y3⟩
theorem copiesK (l:List S27) (h:∀ x ∈ l,∃ y,CpK x y):∃ ys:List S34,ys.length=l.length∧∀ (i:Nat) (h:i < l.length) (h':i < ys.length),CpK l[i] ys[i]:=by
 induction l with
 | nil=>exact ⟨[],rfl,fun i h=>absurd h (by simp)⟩
 | cons x l ih =>
  obtain ⟨y,hy⟩:=h x (by simp)
  obtain ⟨ys,h1,h2⟩:=ih (fun z hz=>h z (by simp [hz]))
  refine ⟨y :: ys,by simp [h1],fun i hi hi' => ?_⟩
  cases i with
  | zero=>exact hy
  | succ i=>exact h2 i (by simpa using hi) (by simpa using hi')
def CpL (l:List S27) (ys:List S34):Prop:=ys.length≤1048576∧(∀ y ∈ ys,CsSm y)∧Evt (fun k=>laws_toConstraintS.f k l) ys
theorem toCsS_ev (l:List S27) (hl:l.length≤1048576) (h:∀ x ∈ l,∃ y,CpK x y):∃ ys,CpL l ys:=by
 obtain ⟨ys,e,hc⟩:=copiesK l h
 refine ⟨ys,by omega,fun y hy=>?_,?_⟩
 ·obtain ⟨i,hi,rfl⟩:=List.mem_iff_getElem.1 hy
  exact (hc i (by omega) hi).1
 ·simp only [laws_toConstraintS.f]
  refine Evt.pos (by omega) (Evt.pos (by omega) ?_)
  rw [Int.toNat_natCast]
  have hh:∀ d i:Nat,i+d=l.length→Evt (fun k=>laws_toConstraintS.l0 k l (ys.take i ++ List.replicate (l.length - i) z34) (i:Int)) ys:=by
   intro d
   induction d with
   | zero =>
    intro i hi
    refine Evt.step ?_
    simp only [laws_toConstraintS.l0]
    refine Evt.neg (by omega) ((Evt.ret _).cast ?_)
    rw [show l.length - i=0 by omega,List.take_of_length_le (by omega)]
    simp
   | succ d ih =>
    intro i hi
    have hi':i < l.length:=by omega
    refine Evt.step ?_
    simp only [laws_toConstraintS.l0]
    rw [csL_at l i hi']
    refine Evt.pos (by omega) (Evt.pos (by omega) (Evt.bind (hc i hi' (by omega)).2 (Evt.pos (by simp;omega) ?_)))
    rw [Int.toNat_natCast,w64s (by omega)]
    have hx:(ys.take i).length=i:=by rw [List.length_take];omega
    have e2:(ys.take i ++ List.replicate (l.length - i) z34).set i (ys[i]'(by omega))=ys.take (i+1) ++ List.replicate (l.length - (i+1)) z34:=by
     rw [List.set_append_right _ _ (by omega),hx,Nat.sub_self,show l.length - i=(l.length - (i+1))+1 by omega,List.replicate_succ,zu,List.take_succ_eq_append_getElem (by omega),List.append_assoc]
     rfl
    simp only [csI_eta,e2]
    exact ih (i+1) (by omega)
  simpa using hh l.length 0 (by omega)
theorem szCsS_ev (l:List S27) (hl:l.length≤9223372036854775807) (h:∀ x ∈ l,CsOk x) (v:Int) (hv:0≤v) (hv':v≤1048576):∃ t,Evt (fun k=>laws_szConstraintS.f k l v) t∧(t = -1∨(0≤t∧t≤v∧∃ ys,CpL l ys)):=by
 simp only [laws_szConstraintS.f]
 rw [w64_sub (by omega) hv' hl]
 by_cases h1:v - l.length < 0
 ·exact ⟨-1,Evt.pos h1 (Evt.ret _),.inl rfl⟩
 have hh:∀ d i:Nat,i+d=l.length→∀ b:Int,0≤b→b≤1048576→∃ t,Evt (fun k=>laws_szConstraintS.l0 k l b (i:Int)) t∧(t = -1∨(0≤t∧t≤b∧∀ x ∈ l.drop i,∃ y,CpK x y)):=by
  intro d
  induction d with
  | zero =>
   intro i hi b hb hb'
   refine ⟨b,Evt.step ?_,.inr ⟨hb,Int.le_refl _,?_⟩⟩
   ·simp only [laws_szConstraintS.l0]
    exact Evt.neg (by omega) (Evt.ret _)
   ·rw [List.drop_of_length_le (by omega)]
    intro x hx
    cases hx
  | succ d ih =>
   intro i hi b hb hb'
   have hi':i < l.length:=by omega
   obtain ⟨t,ht,hc⟩:=szCs_ev l[i] (h _ (List.getElem_mem hi')) b hb hb'
   by_cases h2:t < 0
   ·refine ⟨-1,Evt.step ?_,.inl rfl⟩
    simp only [laws_szConstraintS.l0]
    rw [csL_at l i hi']
    exact Evt.pos (by omega) (Evt.pos (by omega) (Evt.bind ht (Evt.pos h2 (Evt.ret _))))
   ·have hc':=hc.resolve_left (by omega)
    obtain ⟨t',ht',hc2⟩:=ih (i+1) (by omega) t (by omega) (by omega)
    refine ⟨t',Evt.step ?_,?_⟩
    ·simp only [laws_szConstraintS.l0]
     rw [csL_at l i hi',w64s (by omega)]
     exact Evt.pos (by omega) (Evt.pos (by omega) (Evt.bind ht (Evt.neg h2 ht')))
    ·rcases hc2 with h3|⟨h3,h4,h5⟩
     ·exact .inl h3
     ·refine .inr ⟨h3,by omega,?_⟩
      rw [List.drop_eq_getElem_cons hi']
      intro x hx
      rcases List.mem_cons.1 hx with rfl|hx
      ·exact hc'.2.2
      ·exact h5 x hx
 obtain ⟨t,ht,hc⟩:=hh l.length 0 (by omega) (v - l.length) (by omega) (by omega)
 refine ⟨t,Evt.neg h1 ht,hc.imp id ?_⟩
 rintro ⟨g1,g2,g3⟩
 exact ⟨g1,by omega,toCsS_ev l (by omega) (by simpa using g3)⟩
theorem eqCsS_ev (ys:List S34) (hl:ys.length≤1048576) (h:∀ y ∈ ys,CsSm y):Evt (fun k=>laws_eqConstraintS.f k ys ys) true:=by
 simp only [laws_eqConstraintS.f]
 refine Evt.pos trivial ?_
 have hh:=Evt.up (fun k i=>laws_eqConstraintS.l0 k ys ys i) ys.length (fun _=>true) ?_ ?_
 ·exact hh
 ·refine Evt.step ?_
  simp only [laws_eqConstraintS.l0]
  exact Evt.neg (by omega) (Evt.ret _)
 ·intro i hi ih
  refine Evt.step ?_
  simp only [laws_eqConstraintS.l0]
  rw [csI_at ys i hi,w64s (by omega)]
  obtain ⟨g1,g2,_,_⟩:=h _ (List.getElem_mem hi)
  exact Evt.pos (by omega) (Evt.pos (by omega) (Evt.pos (by omega) (Evt.bind (eqConstraint_ev _ _ _ _ _ _ _ _ (by rw [rx_eta];exact g1) g2) (Evt.pos rfl ih))))
theorem szProblem_ev (l:List S27) (hl:l.length≤9223372036854775807) (h:∀ x ∈ l,CsOk x) (v:Int) (hv:0≤v) (hv':v≤1048576):∃ t,Evt (fun k=>laws_szProblem.f k l v) t∧(t = -1∨(0≤t∧t≤v∧∃ ys,CpL l ys)):=by
 obtain ⟨t,ht,hc⟩:=szCsS_ev l hl h v hv hv'
 simp only [laws_szProblem.f]
 rcases hc with rfl|⟨h0,h1,h2⟩
 ·exact ⟨-1,Evt.bind ht (Evt.pos (by decide) (Evt.ret _)),.inl rfl⟩
 ·exact ⟨t,Evt.bind ht (Evt.neg (by omega) (Evt.ret _)),.inr ⟨h0,h1,h2⟩⟩
theorem toProblem_ev {l:List S27} {ys:List S34} (h:CpL l ys):Evt (fun k=>laws_toProblem.f k l) ys:=by
 simp only [laws_toProblem.f]
 exact Evt.bind h.2.2 (Evt.ret _)
theorem eqProblem_ev {l:List S27} {ys:List S34} (h:CpL l ys):Evt (fun k=>laws_eqProblem.f k ys ys) true:=by
 simp only [laws_eqProblem.f]
 exact Evt.bind (eqCsS_ev ys h.1 h.2.1) (Evt.pos rfl (Evt.ret _))
end Go.Proofs.YtdchpohiiigobaaDoor.F
namespace Go.Proofs.YtdchpohiiigobaaDoor.F
open Go Go.RowKit YtdchpohiiigobaaDoorW.PrintWords YtdchpohiiigobaaDoor.Pl YtdchpohiiigobaaDoor.A YtdchpohiiigobaaDoor.Ext
def valK (y:S34):Bool:=valC y.f0 y.f1 y.f2 y.f3.f0 y.f3.f1 y.f3.f2 y.f4 y.f5
def valP (ys:List S34):Bool:=ys.all valK && decide ((ys.length:Int)≤6)
theorem spec_IsValidProblem_ev (ys:List S34) (hl:ys.length≤1048576) (h:∀ y ∈ ys,CsSm y):Evt (fun k=>spec_IsValidProblem.f k ys) (valP ys):=by
 have hh:=Evt.up (fun k i=>spec_IsValidProblem.l0 k i ys) ys.length (fun i=>(ys.drop i).all valK && decide ((ys.length:Int)≤6)) ?_ ?_
 ·simpa [spec_IsValidProblem.f,valP] using hh
 ·refine Evt.step ?_
  simp only [spec_IsValidProblem.l0]
  rw [List.drop_of_length_le (by omega)]
  exact Evt.neg (by omega) ((Evt.ret _).cast (by simp))
 ·intro i hi hn
  obtain ⟨g1,g2,g3,g4⟩:=h _ (List.getElem_mem hi)
  have hv:=spec_IsValidConstraint_ev (a:=ys[i].f0) (d:=ys[i].f3.f0) (n:=ys[i].f5) (Nat.le_trans g3 (by decide)) (Nat.le_trans g4 (by decide)) (by rw [rx_eta];exact g1) g2
  refine Evt.step ?_
  simp only [spec_IsValidProblem.l0]
  rw [csI_at ys i hi,w64s (by omega),List.drop_eq_getElem_cons hi,List.all_cons]
  refine Evt.pos (by omega) (Evt.pos (by omega) (Evt.bind hv ?_))
  change Evt (fun k=>if valK ys[i]=true then _ else _) _
  cases valK ys[i] with
  | true=>exact Evt.pos rfl (hn.cast (by simp))
  | false=>exact Evt.neg (by decide) ((Evt.ret _).cast (by simp))
theorem impl_IsValidProblem_ev (ys:List S34) (hl:ys.length≤1048576) (h:∀ y ∈ ys,CsSm y):Evt (fun k=>impl_IsValidProblem.f k ys) (valP ys):=by
 simp only [impl_IsValidProblem.f,impl_Constraint_54.f,impl_Constraint_69.f]
 unfold valP
 by_cases h6:(ys.length:Int)≤6
 ·refine Evt.pos h6 ?_
  have hh:∀ d i:Nat,i+d=ys.length→∃ r,Evt (fun k=>impl_Constraint_69.l0 k ys (ys.length:Int) (i:Int)) r∧decide (r ≥ 0) = !((ys.drop i).all valK):=by
   intro d
   induction d with
   | zero =>
    intro i hi
    refine ⟨-1,Evt.step ?_,?_⟩
    ·simp only [impl_Constraint_69.l0]
     exact Evt.neg (by omega) (Evt.ret _)
    ·rw [List.drop_of_length_le (by omega)];rfl
   | succ d ih =>
    intro i hi
    have hi':i < ys.length:=by omega
    obtain ⟨g1,g2,g3,g4⟩:=h _ (List.getElem_mem hi')
    have hv:Evt (fun k=>impl_IsValidConstraint.f k ys[i].f0 ys[i].f1 ys[i].f2 ys[i].f3.f0 ys[i].f3.f1 ys[i].f3.f2 ys[i].f4 ys[i].f5) (valK ys[i]):=impl_IsValidConstraint_ev g2
    rw [List.drop_eq_getElem_cons hi',List.all_cons]
    obtain ⟨r,hr,hc⟩:=ih (i+1) (by omega)
    cases hq:valK ys[i] with
    | true =>
     refine ⟨r,Evt.step ?_,by simpa using hc⟩
     simp only [impl_Constraint_69.l0,impl_IsValidProblem_1.f]
     rw [csI_at ys i hi',w64s (by omega)]
     exact Evt.pos (by omega) (Evt.pos (by omega) (Evt.pos (by omega) (Evt.bind (Evt.bind hv (Evt.ret _)) (Evt.neg (by simp [hq]) hr))))
    | false =>
     refine ⟨(i:Int),Evt.step ?_,by simp⟩
     simp only [impl_Constraint_69.l0,impl_IsValidProblem_1.f]
     rw [csI_at ys i hi']
     exact Evt.pos (by omega) (Evt.pos (by omega) (Evt.pos (by omega) (Evt.bind (Evt.bind hv (Evt.ret _)) (Evt.pos (by simp [hq]) (Evt.ret _)))))
  obtain ⟨r,hr,hc⟩:=hh ys.length 0 (by omega)
  refine Evt.bind (Evt.bind hr (Evt.ret _)) ((Evt.ret _).cast ?_)
  rw [hc]
  simp [h6]
 ·exact Evt.neg h6 ((Evt.ret _).cast (by simp [h6]))
theorem valP_len {ys:List S34} (h:valP ys=true):ys.length≤6:=by
 unfold valP at h
 simp at h
 omega
theorem FormatProblem_ev (ys:List S34) (hl:ys.length≤1048576) (h:∀ y ∈ ys,CsSm y):∃ t:ByteArray,Evt (fun k=>spec_FormatProblem.f k ys) t∧Evt (fun k=>impl_FormatProblem.f k ys) t:=by
 simp only [spec_FormatProblem.f,impl_FormatProblem.f]
 have hv:=spec_IsValidProblem_ev ys hl h
 have hv':=impl_IsValidProblem_ev ys hl h
 cases hV:valP ys with
 | false =>
  rw [hV] at hv hv'
  have hp:0 < ys.length:=by
   cases ys with
   | nil=>simp [valP] at hV
   | cons y ys=>simp
  refine ⟨⟨#[]⟩,Evt.step ?_,Evt.bind hv' (Evt.neg (by decide) (Evt.ret _))⟩
  simp only [spec_FormatProblem.l0]
  exact Evt.pos (by omega) (Evt.bind hv (Evt.neg (by decide) (Evt.ret _)))
 | true =>
  rw [hV] at hv hv'
  have h6:=valP_len hV
  have hh:∀ d i:Nat,i+d=ys.length→∀ acc:ByteArray,acc.size≤20001 * i→∃ t:ByteArray,Evt (fun k=>spec_FormatProblem.l0 k acc (i:Int) ys) t∧Evt (fun k=>impl_FormatProblem.l0 k acc ys (ys.length:Int) (i:Int)) t:=by
   intro d
   induction d with
   | zero =>
    intro i hi acc ha
    refine ⟨acc,Evt.step ?_,Evt.step ?_⟩
    ·simp only [spec_FormatProblem.l0]
     exact Evt.neg (by omega) (Evt.ret _)
    ·simp only [impl_FormatProblem.l0]
     exact Evt.neg (by omega) (Evt.ret _)
   | succ d ih =>
    intro i hi acc ha
    have hi':i < ys.length:=by omega
    obtain ⟨g1,g2,g3,g4⟩:=h _ (List.getElem_mem hi')
    obtain ⟨t,ht,s1,s2⟩:=FormatConstraint_ev (a:=ys[i].f0) (b:=ys[i].f1) (c:=ys[i].f2) (d:=ys[i].f3.f0) (n:=ys[i].f5) (Nat.le_trans g3 (by decide)) (Nat.le_trans g4 (by decide)) (by rw [rx_eta];exact g1) g2
    have hz:((acc ++ t) ++ (⟨#[10]⟩:ByteArray)).size=acc.size+t.size+1:=sizes2 _ _ _
    have hy:(acc ++ t).size=acc.size+t.size:=ByteArray.size_append
    have hx:(t ++ (⟨#[10]⟩:ByteArray)).size=t.size+1:=ByteArray.size_append
    obtain ⟨u,r1,r2⟩:=ih (i+1) (by omega) ((acc ++ t) ++ (⟨#[10]⟩:ByteArray)) (by omega)
    refine ⟨u,Evt.step ?_,Evt.step ?_⟩
    ·simp only [spec_FormatProblem.l0]
     rw [csI_at ys i hi',w64s (by omega)]
     exact Evt.pos (by omega) (Evt.bind hv (Evt.pos rfl (Evt.pos (by omega) (Evt.bind s1 (Evt.pos (by omega) (Evt.pos (by omega) r1))))))
    ·simp only [impl_FormatProblem.l0]
     rw [csI_at ys i hi',w64s (by omega)]
     refine Evt.pos (by omega) (Evt.pos (by omega) (Evt.pos (by omega) (Evt.bind s2 (Evt.pos (by omega) (Evt.pos (by omega) ?_)))))
     rw [← ByteArray.append_assoc]
     exact r2
  obtain ⟨t,r1,r2⟩:=hh ys.length 0 (by omega) (⟨#[]⟩:ByteArray) (by decide)
  exact ⟨t,r1,Evt.bind hv' (Evt.pos rfl r2)⟩
end Go.Proofs.YtdchpohiiigobaaDoor.F
namespace Go.Proofs.YtdchpohiiigobaaDoor.Pure
open Go Go.RowKit YtdchpohiiigobaaDoorW.PrintWords YtdchpohiiigobaaDoor.Pl YtdchpohiiigobaaDoor.F YtdchpohiiigobaaDoor.A YtdchpohiiigobaaDoor.Ext YtdchpohiiigobaaDoor.BtFnExactFormatProblem
theorem rxOk_of (n:Nat):∀ x:S24,wf24N n x→RxOk n x:=by
 induction n with
 | zero=>intro x h;exact h.elim
 | succ n ih=>intro x h;exact ⟨h.2.1,h.2.2.1,fun a ha=>ih a (h.2.2.2 a ha)⟩
theorem csOk_of (x:S27) (h:wf27 x):CsOk x:=by
 obtain ⟨_,h1,h2,⟨n,h3⟩,h4,_⟩:=h
 exact ⟨h1,h2,⟨n,rxOk_of n _ h3⟩,h4.1⟩
theorem FnExactFormatProblem:FnExactFormatProblem.Pure:=by
 intro l hl
 refine Evt.get (g:=fun k=>laws_FnExactFormatProblem.f k l) ?_
 simp only [laws_FnExactFormatProblem.f]
 obtain ⟨t,ht,hs⟩:=szProblem_ev l hl.1 (fun x hx=>csOk_of x (hl.2 x hx)) 1048576 (by omega) (by omega)
 rcases hs with rfl|⟨h0,h1,ys,hy⟩
 ·exact Evt.bind ht (Evt.pos (by decide) (Evt.ret _))
 have q1:=toProblem_ev hy
 obtain ⟨z,s1,s2⟩:=FormatProblem_ev ys hy.1 hy.2.1
 exact Evt.bind ht (Evt.neg (by omega) (Evt.bind q1 (Evt.bind s1 (Evt.bind q1 (Evt.bind s2 (Evt.pos rfl (Evt.bind q1 (Evt.bind (eqProblem_ev hy) (Evt.pos rfl (Evt.ret _))))))))))
end Go.Proofs.YtdchpohiiigobaaDoor.Pure
namespace Go.Proofs.YtdchpohiiigobaaDoor.fnExactFormatProblem
open Go.ChangeShapes Go.WideShapes Go.ChangeAt Go.RowKit YtdchpohiiigobaaDoor.Br YtdchpohiiigobaaDoorW.PrintWords YtdchpohiiigobaaDoor.A YtdchpohiiigobaaDoor.Ext YtdchpohiiigobaaDoor.BtFnExactFormatProblem
open Go.ChangeMaps (open_string shut_string)
theorem own:ownKnob Tryd.prog.godebug=none:=by kernel_rfl
theorem laidOut:laidOutB Tryd.prog=true:=by kernel_rfl
abbrev laid : List (String × DataW Unit) := [("math/bits.deBruijn32tab", Rows.laid_math_bits_deBruijn32tab), ("math/bits.deBruijn64tab", Rows.laid_math_bits_deBruijn64tab), ("internal/strconv.uint64pow10", Rows.laid_internal_strconv_uint64pow10)]
theorem door_met (os:Os) (args:Array Value):laidMetH Tryd.prog laid ((World.doorLaid Tryd.prog 4000 os).forCall (fun _ _=>0) ⟨#[],args,[]⟩).memory :=
 laidMetH_of_parts3 (fuel:=8) (laidMet_of_run' 8 (by kernel_rfl) (by kernel_rfl)) (by kernel_rfl) (by kernel_rfl)
theorem tb_of {W:World} (h:laidMetH Tryd.prog laid W):Tb W:=by
 rw [MakeChecks.laidMetH_plain _ _ _ (by kernel_rfl)] at h
 have h3 : laidMet Tryd.prog [("internal/strconv.uint64pow10", Lib.tabData .u64 Lib.pow10Tab)] W := h.tail.tail
 exact Lib.tabIs_of_head (g:=0) (t:=106) (e:=97) (n:=20) (by kernel_rfl) (by kernel_rfl) (by kernel_rfl) (by kernel_rfl) (by kernel_rfl) (by kernel_rfl) h3
set_option maxHeartbeats 2000000 in
theorem lifted (os:Os) (started:os.Started) (H:Type) (enc:TypeId × Value→H) :
  ReturnsInHanded {} Tryd.checked os 4 .any (fun w args=>(Rows.fnExactFormatProblemSpec.pre enc Tryd.prog Tryd.f4 Rows.fnExactFormatProblemRow.domain false w args∧laidMetH Tryd.prog laid w)∧sizedMet enc Tryd.prog Tryd.f4 (OpenSpec.ofChange Rows.fnExactFormatProblemSpec) false w args) (Rows.fnExactFormatProblemSpec.post enc Tryd.prog Tryd.f4 false true false false):=by
 refine returnsInHanded_of_change_and (C:=Tryd.checked) (X:=fun w _=>laidMetH Tryd.prog laid w) (fun _ _ _ hh h=>h.of_heap hh) own started (by kernel_rfl) Tryd.func4
  (ChangeSpec.witness_shaped (enc:=enc) (C:=Tryd.checked) (os:=os) (X:=fun w _=>laidMetH Tryd.prog laid w) false (World.doorLaid Tryd.prog 4000 os) #[.agg #[.slice none 0 0]] 8 rfl (World.shaped_of_RefB (by kernel_rfl) (by kernel_rfl)) (by kernel_rfl) (by kernel_rfl) (by kernel_rfl) (door_met os _)) ?_
 intro W base args ds gs before hval0 hW hcnd hsz0 hL _
 have hTb:=tb_of hL
 have hval:∀ (j:Nat) t v,Tryd.f4.params[j]? = some t→args[j]? = some v→Value.okWide Tryd.prog W .any base t v:=hval0
 have hW':=hW
 obtain ⟨p,q,hA0,hV,rfl,hfz,hnd⟩:=hW
 have hA:DataW.TrodAll enc Tryd.prog W 0 (fun _=>true) true Tryd.f4.params.toList args.toList ds p:=hA0
 rw [Tryd.params4] at hA hval
 obtain ⟨v0,vs0,d0,ds0,p0,q0,hargs,rfl,rfl,h0,r0⟩:=trodAll_cons hA
 obtain ⟨rfl,rfl,rfl⟩:=trodAll_nil r0
 obtain rfl:args = #[v0]:=by cases args;simp_all
 obtain ⟨rfl,rfl⟩:=trodVars_none hV
 have k0:=h0
 have lt0:∀ x ∈ p0,x.block < W.heap.size:=by obtain ⟨m,hm⟩:=k0;exact DataW.trod_lt m _ _ _ hm
 obtain ⟨arr0,rfl,_,_⟩:∃ cs,v0 = .agg cs∧cs.size=Tryd.prog.cellsOf 40∧Row.okWide Tryd.prog W .any base 40 cs:=by have z:=(hval 0 40 v0 rfl rfl);unfold Value.okWide at z;rw [Tryd.underlying40] at z;exact z
 obtain ⟨fuel0,hf0⟩:=h0
 obtain ⟨l0_0,hK0,hw0⟩:=(show ∀ n,BrN Tryd.prog n 40 _ _ from fun n=>(br_struct' Tryd.underlying40 (show Tryd.prog.cellsOf 40=1 by kernel_rfl) (fun n=>(bf_one rfl (show Tryd.prog.cellsOf 38=1 by kernel_rfl) (br_slice' Tryd.underlying38 (show Tryd.prog.cellsOf 27=8 by kernel_rfl) (fun n=>(br27 n)) n))) n)) fuel0 H enc W 0 (fun _=>true) true fuel0 _ _ (Nat.le_refl _) hf0
 replace hw0:=hw0
 have w0_0:=hw0
 obtain ⟨cs0,hcs0,hK0⟩:∃ cs,(Value.agg arr0).cells.toList=cs∧_:=⟨_,rfl,hK0⟩
 obtain ⟨A0_0,c0_0,rfl,hc0_0,hr0_0⟩:=hK0
 obtain rfl:arr0 = #[.slice A0_0 l0_0.length c0_0]:=arr_of hcs0
 clear hA0 hval0 hsz0
 obtain ⟨k,hp⟩:=Pure.FnExactFormatProblem l0_0 w0_0
 refine (laws_FnExactFormatProblem.calls k _ _ l0_0 true W hr0_0 hc0_0 hp rfl hTb).mono fun e W' ⟨he,bel0⟩ => ?_
 subst he
 have bel:Below W.heap.size W W':=bel0
 exact ⟨_,rfl,_,_,_,[],_,[],hW',trodAll_mk1 (shut_bool Tryd.underlying4 _),(trodAll_cons_mk (Below.trod laidOut (by kernel_rfl) (of_decide_eq_true (by kernel_rfl)) k0 bel lt0) trodAll_mk0),rfl,bel.frame _,fun h=>by cases h⟩
theorem fact0:(Rows.fnExactFormatProblemRow.inPlace == Tryd.pinned.checked.prog.inPlace 4)=true:=by kernel_rfl
theorem fact1:(Rows.fnExactFormatProblemRow.unfollowed == Tryd.pinned.checked.prog.unfollowed 4)=true:=by kernel_rfl
theorem fact2:(Rows.fnExactFormatProblemRow.recurses == Tryd.pinned.checked.prog.recurses 4)=true:=by kernel_rfl
theorem fact3:(Rows.fnExactFormatProblemRow.named == Tryd.pinned.checked.prog.varsNamed 4)=true:=by kernel_rfl
theorem facts:joinedFacts Tryd.pinned.checked.prog 4 Tryd.f4 Rows.fnExactFormatProblemSpec Rows.fnExactFormatProblemRow=true:=by
 unfold joinedFacts
 rw [fact0,fact1,fact2,fact3]
 kernel_rfl
theorem known:Tryd.pinned.checked.prog.funcNamed Rows.fnExactFormatProblemRow.func=some 4:=by kernel_rfl
theorem inst:Tryd.f4.isInstance Tryd.pinned.checked.prog Rows.fnExactFormatProblemRow.origin Rows.fnExactFormatProblemRow.targs:=of_decide_eq_true (by kernel_rfl)
theorem wrap:Tryd.f4.isWrapper Tryd.pinned.checked.prog Rows.fnExactFormatProblemRow.wrapper Rows.fnExactFormatProblemRow.mainSum:=by unfold Func.isWrapper;first|(rw [if_pos (by decide +kernel)];kernel_rfl)|(rw [if_neg (by decide +kernel)];exact ⟨rfl,rfl⟩)
theorem over:Rows.fnExactFormatProblemRow.holds Tryd.pinned (OpenSpec.ofChange Rows.fnExactFormatProblemSpec) :=
 OpenClaim.holds_of_wide 4 Tryd.f4 rfl rfl rfl rfl rfl rfl rfl ⟨rfl,rfl,rfl,rfl,rfl⟩ rfl rfl rfl rfl rfl known Tryd.func4 facts inst wrap
  (fun os started H enc _=>lifted os started H enc)
theorem proved:Rows.FnExactFormatProblemSaid:=over
#print axioms proved
end Go.Proofs.YtdchpohiiigobaaDoor.fnExactFormatProblem
namespace Go.Proofs.YtdchpohiiigobaaDoor
theorem fnExactFormatProblem_holds:Rows.FnExactFormatProblemSaid:=fnExactFormatProblem.proved
end Go.Proofs.YtdchpohiiigobaaDoor
namespace Go.Proofs.YtdchpohiiigobaaDoor
open Go
theorem fnExactFormatProblemCard_holds:Rows.FnExactFormatProblemCardSaid :=
 Claim7.holds_tied_plain_at .later [] [.data, .data, .data] true (true, "0e7ca0f478107c6d77823d43d7f2a987e882742f74475530a30025d58e101769") false
  fnExactFormatProblem_holds (fun _ h=>by cases h) (by kernel_rfl) (fun _ h=>by cases h) fnExactFormatProblem_row_tie rfl ⟨rfl,rfl⟩ (by kernel_rfl) rfl
  (fun f fn hf hfn=>by
   obtain rfl : f = 4 := zi ((show Tryd.prog.funcNamed "loop.example/g00582/laws.FnExactFormatProblem" = some 4 by kernel_rfl).symm.trans hf) |>.symm
   obtain rfl:fn=Tryd.f4:=(zi (Tryd.func4.symm.trans hfn)).symm
   exact ⟨by kernel_rfl,fun j t ht=>by
    rw [Tryd.params4] at ht
    have h3:t=40:=by
     rcases j with _|j
     ·simpa using ht.symm
     ·simp at ht
    subst h3
    exact (show Tryd.prog.wantsStandIn 40=false by kernel_rfl)⟩)
  (by kernel_rfl)
#print axioms fnExactFormatProblemCard_holds
end Go.Proofs.YtdchpohiiigobaaDoor
