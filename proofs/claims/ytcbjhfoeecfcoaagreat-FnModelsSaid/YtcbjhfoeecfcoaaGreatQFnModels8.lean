/- FnModels: what its proof needs, put together by this session's program wip/merge.py out of the texts that wip/xp.py printed and of this session's own. -/
import Derived.Test.YtcbjhfoeecfcoaaGreatQFnModels7
import Derived.Test.YtcbjhfoeecfcoaaGreatRows
import Derived.WalkKit
import Derived.ProofKit
import Derived.OpenShut
import Derived.ShutString
import Derived.ChangeOld
import Derived.Below
import Derived.SizedLaws
import Derived.Lib.SmallJoins
set_option linter.unusedVariables false
set_option linter.unusedSimpArgs false
set_option linter.unusedSectionVars false
set_option maxHeartbeats 8000000
set_option maxRecDepth 100000
namespace Go.Proofs.YtcbjhfoeecfcoaaGreat.F
open Go.RowKit YtcbjhfoeecfcoaaGreatW.PrintWords YtcbjhfoeecfcoaaGreat.Pl YtcbjhfoeecfcoaaGreat.A YtcbjhfoeecfcoaaGreat.Ext
def Evt2 {α:Type} (g:Nat→Nat→Option α) (r:α):Prop:=∃ K,∀ i j,K≤i→K≤j→g i j=some r
theorem Evt2.ret {α:Type} (r:α):Evt2 (fun _ _=>some r) r:=⟨0,fun _ _ _ _=>rfl⟩
theorem Evt2.bind {α β:Type} {g:Nat→Option α} {f:Nat→Nat→α→Option β} {a:α} {r:β} (hg:Evt g a) (hf:Evt2 (fun i j=>f i j a) r):Evt2 (fun i j=>(g i).bind (f i j)) r:=by
 obtain ⟨K,hK⟩:=hg
 obtain ⟨L,hL⟩:=hf
 exact ⟨max K L,fun i j hi hj=>by show (g i).bind (f i j)=some r;rw [hK i (by omega)];exact hL i j (by omega) (by omega)⟩
theorem Evt2.pos {α:Type} {c:Prop} [Decidable c] {t e:Nat→Nat→Option α} {r:α} (h:c) (ht:Evt2 t r):Evt2 (fun i j=>if c then t i j else e i j) r:=by
 obtain ⟨K,hK⟩:=ht
 exact ⟨K,fun i j hi hj=>by show (if c then t i j else e i j)=some r;rw [if_pos h];exact hK i j hi hj⟩
theorem Evt2.neg {α:Type} {c:Prop} [Decidable c] {t e:Nat→Nat→Option α} {r:α} (h:¬ c) (he:Evt2 e r):Evt2 (fun i j=>if c then t i j else e i j) r:=by
 obtain ⟨K,hK⟩:=he
 exact ⟨K,fun i j hi hj=>by show (if c then t i j else e i j)=some r;rw [if_neg h];exact hK i j hi hj⟩
theorem Evt2.step {α:Type} {g:Nat→Nat→Option α} {r:α} (h:Evt2 (fun i j=>g i (j+1)) r):Evt2 g r:=by
 obtain ⟨K,hK⟩:=h
 refine ⟨K+1,fun i j hi hj=>?_⟩
 obtain ⟨j,rfl⟩:∃ m,j=m+1:=⟨j - 1,by omega⟩
 exact hK i j (by omega) (by omega)
theorem Evt2.cast {α:Type} {g:Nat→Nat→Option α} {r r':α} (h:Evt2 g r) (e:r=r'):Evt2 g r':=e ▸ h
def cntN:Nat→List S54→Nat
 | 0,_=>0
 | d+1,xs=>(xs.map fun y=>2+cntN d y.f2).sum
def htN:Nat→S54→Bool
 | 0,_=>false
 | d+1,x=>x.f2.all (htN d)
def Bd (l:List S54) (c:Nat):Prop:=(∀ d,cntN d l≤2 * c)∧∃ N,∀ d,N≤d→l.all (htN d)=true
inductive Sm : S54 → Prop
 | mk (a:Int) (b:ByteArray) (l:List S54) (h:l.length≤1048576) (hs:∀ x ∈ l,Sm x) (hb:∃ c,c≤1048576∧Bd l c):Sm ⟨a,b,l⟩
theorem Sm.len {x:S54} (h:Sm x):x.f2.length≤1048576:=by cases h;assumption
theorem rxI_at (l:List S54) (i:Nat) (h:i < l.length):rd_T54 l (i:Int)=l[i]:=by simp [rd_T54,h]
theorem rx_eta (y:S54):(⟨y.f0,y.f1,y.f2⟩:S54)=y:=by cases y;rfl
theorem spec_LetterIndex_ev (c:Int):Evt (fun k=>spec_LetterIndex.f k c) (ltI c):=by
 refine ⟨4,fun k hk=>?_⟩
 obtain ⟨m,rfl⟩:∃ m,k=m+4:=⟨k - 4,by omega⟩
 unfold ltI
 by_cases h0:(97:Int)=c
 ·simp [spec_LetterIndex.f,spec_LetterIndex.l0,w64_a,w64_b,w64_c,bt_abc0,bt_abc1,bt_abc2,h0]
 ·by_cases h1:(98:Int)=c
  ·simp [spec_LetterIndex.f,spec_LetterIndex.l0,w64_a,w64_b,w64_c,bt_abc0,bt_abc1,bt_abc2,h0,h1]
  ·by_cases h2:(99:Int)=c
   ·simp [spec_LetterIndex.f,spec_LetterIndex.l0,w64_a,w64_b,w64_c,bt_abc0,bt_abc1,bt_abc2,h0,h1,h2]
   ·simp [spec_LetterIndex.f,spec_LetterIndex.l0,w64_a,w64_b,w64_c,bt_abc0,bt_abc1,bt_abc2,h0,h1,h2]
theorem impl_LetterIndex_eq {c:Int} (h0:0≤c) (h1:c≤255):impl_LetterIndex.f c=some (ltI c):=by
 obtain ⟨n,rfl⟩:=Int.eq_ofNat_of_zero_le h0
 simp only [impl_LetterIndex.f,strings_IndexByte.f,Option.bind_some]
 rw [Int.toNat_natCast]
 exact congrArg some (ix_abc n (by omega))
def allL (l:List Int):Bool:=l.all fun c=>decide (0≤ltI c)
theorem impl_isLetters_ev (s:ByteArray) (hs:s.size≤9223372036854775807):Evt (fun k=>impl_isLetters.f k s) (allL (bytesOf s)):=by
 have h:=Evt.up (fun k i=>impl_isLetters.l0 k s i) s.size (fun i=>allL ((bytesOf s).drop i)) ?_ ?_
 ·simpa [impl_isLetters.f] using h
 ·refine Evt.step ?_
  simp only [impl_isLetters.l0]
  rw [List.drop_of_length_le za79]
  exact Evt.neg (by omega) (Evt.ret _)
 ·intro i hi h
  refine Evt.step ?_
  simp only [impl_isLetters.l0]
  refine Evt.pos (by omega) (Evt.pos (by omega) (Evt.bindc (impl_LetterIndex_eq (bt0 _ _) (bt255 _ _)) ?_))
  have hl:i < (bytesOf s).length:=by rw [bytesOf_length];exact hi
  rw [List.drop_eq_getElem_cons hl,← bt_get s i hl]
  by_cases hc:ltI (bt s i) < 0
  ·exact Evt.pos hc (Evt.const (by simp [allL,show ¬ (0≤ltI (bt s i)) by omega]))
  ·rw [w64s (by omega)]
   exact Evt.neg hc (h.cast (by simp [allL,show 0≤ltI (bt s i) by omega]))
def isW (s:ByteArray):Bool:=allL (bytesOf s) && decide (s.size≤30)
theorem impl_IsWord_ev (s:ByteArray) (hs:s.size≤9223372036854775807):Evt (fun k=>impl_IsWord.f k s) (isW s):=by
 unfold isW
 simp only [impl_IsWord.f]
 by_cases h:s.size≤30
 ·exact Evt.pos (by omega) (Evt.bind (impl_isLetters_ev s hs) (Evt.const (by simp [h])))
 ·exact Evt.neg (by omega) (Evt.const (by simp [h]))
theorem spec_IsWord_ev (s:ByteArray) (hs:s.size≤9223372036854775807):Evt (fun k=>spec_IsWord.f k s) (isW s):=by
 have h:=Evt.up (fun k i=>spec_IsWord.l0 k s i) s.size (fun i=>allL ((bytesOf s).drop i) && decide (s.size≤30)) ?_ ?_
 ·simpa [spec_IsWord.f,isW] using h
 ·refine Evt.step ?_
  simp only [spec_IsWord.l0]
  rw [List.drop_of_length_le za79]
  refine Evt.neg (by omega) (Evt.const ?_)
  have e:((s.size:Int)≤30)=(s.size≤30):=by apply propext;omega
  simp [allL,e]
 ·intro i hi h
  refine Evt.step ?_
  simp only [spec_IsWord.l0]
  refine Evt.pos (by omega) (Evt.pos (by omega) (Evt.bind (spec_LetterIndex_ev _) ?_))
  have hl:i < (bytesOf s).length:=by rw [bytesOf_length];exact hi
  rw [List.drop_eq_getElem_cons hl,← bt_get s i hl]
  by_cases hc:ltI (bt s i) < 0
  ·exact Evt.pos hc (Evt.const (by simp [allL,show ¬ (0≤ltI (bt s i)) by omega]))
  ·rw [w64s (by omega)]
   exact Evt.neg hc (h.cast (by simp [allL,show 0≤ltI (bt s i) by omega]))
def arN (a:Int):Nat:=if a=5∨a=6∨a=7 then 2 else if a=8∨a=9 then 1 else 0
theorem arN_le (a:Int):arN a≤2:=by
 unfold arN
 split
 ·omega
 ·split <;> omega
def kOk (a:Int) (b:ByteArray) (n:Nat):Bool :=
 if a=3 then decide (b.size=1) && isW b && decide (n=0) else decide (1≤a∧a≤9) && decide (b.size=0) && decide (n=arN a)
theorem kOk_len {a:Int} {b:ByteArray} {n:Nat} (h:kOk a b n=true):n=arN a:=by
 unfold kOk at h
 split at h
 ·next e=>subst e;simp at h;simp [h.2,arN]
 ·simp at h;exact h.2
def nds:Nat→S54→Nat
 | 0,_=>17
 | n+1,x=>if kOk x.f0 x.f1 x.f2.length=true then min (1+(x.f2.map (nds n)).sum) 17 else 17
theorem nds_le (n:Nat) (x:S54):nds n x≤17:=by
 cases n with
 | zero=>exact Nat.le_refl _
 | succ n=>unfold nds;split <;> omega
def Ht:Nat→S54→Prop
 | 0,_=>False
 | n+1,x=>x.f2.length≤1048576∧∀ a ∈ x.f2,Ht n a
theorem Ht_mono:∀ n (x:S54),Ht n x→Ht (n+1) x:=by
 intro n
 induction n with
 | zero=>intro x h;exact h.elim
 | succ n ih=>intro x h;exact ⟨h.1,fun a ha=>ih a (h.2 a ha)⟩
theorem Ht_le {n m:Nat} (h:n≤m) (x:S54) (hx:Ht n x):Ht m x:=by
 induction h with
 | refl=>exact hx
 | step _ ih=>exact Ht_mono _ _ ih
theorem Sm.ht {x:S54} (h:Sm x):∃ n,Ht n x:=by
 induction h with
 | mk a b l hl hs hb ih =>
  have h3:∃ n,∀ a ∈ l,Ht n a:=by
   clear hl hs hb
   induction l with
   | nil=>exact ⟨0,fun a ha=>by cases ha⟩
   | cons x l ihl =>
    obtain ⟨n,hn⟩:=ihl (fun a ha=>ih a (List.mem_cons_of_mem _ ha))
    obtain ⟨m,hm⟩:=ih x (List.mem_cons_self ..)
    refine ⟨max n m,fun a ha=>?_⟩
    rcases List.mem_cons.1 ha with rfl|ha
    ·exact Ht_le (by omega) _ hm
    ·exact Ht_le (by omega) _ (hn a ha)
  obtain ⟨n,hn⟩:=h3
  exact ⟨n+1,hl,hn⟩
def siz:Nat→S54→Nat
 | 0,_=>1
 | n+1,x=>1+(x.f2.map (siz n)).sum
def dep:Nat→S54→Nat
 | 0,_=>1
 | n+1,x=>(x.f2.map (dep n)).foldr max 0+1
def alls:Nat→S54→Bool
 | 0,_=>true
 | n+1,x=>(x.f2.all (alls n)) && kOk x.f0 x.f1 x.f2.length
theorem siz_pos (n:Nat) (x:S54):1≤siz n x:=by cases n <;> simp [siz]
theorem dep_pos (n:Nat) (x:S54):1≤dep n x:=by cases n <;> simp [dep]
theorem dep_le_siz (n:Nat):∀ x:S54,dep n x≤siz n x:=by
 induction n with
 | zero=>intro x;simp [dep,siz]
 | succ n ih =>
  intro x
  simp only [dep,siz]
  generalize x.f2=l
  induction l with
  | nil=>simp
  | cons y l ihl=>simp only [List.map_cons,List.foldr_cons,List.sum_cons];have:=ih y;omega
theorem nds_eq (n:Nat):∀ (x:S54) (e:Nat),Ht n x→nds e x=if alls n x=true∧dep n x≤e∧siz n x≤16 then siz n x else 17:=by
 induction n with
 | zero=>intro x e h;exact h.elim
 | succ n ih =>
  intro x e h
  cases e with
  | zero =>
   have:=dep_pos (n+1) x
   rw [if_neg (by omega)]
   rfl
  | succ e =>
   unfold nds
   by_cases hk:kOk x.f0 x.f1 x.f2.length=true
   ·rw [if_pos hk]
    have hl:=kOk_len hk
    have h2:=arN_le x.f0
    obtain ⟨_,hm⟩:=h
    simp only [alls,dep,siz,hk,Bool.and_true]
    generalize x.f2=l at *
    match l with
    | []=>simp
    | [p] =>
     have ip:=ih p e (hm p (by simp))
     have hp:=siz_pos n p
     have hq:=dep_pos n p
     simp only [List.map_cons,List.map_nil,List.sum_cons,List.sum_nil,List.foldr_cons,List.foldr_nil,List.all_cons,List.all_nil,Bool.and_true,ip]
     by_cases c1:alls n p=true <;> by_cases c2:dep n p≤e <;> by_cases c3:siz n p≤16 <;> simp only [c1,c2,c3,true_and,false_and,and_true,and_false,if_true,if_false,Bool.false_eq_true] <;> first|omega|(split <;> omega)
    | [p,q] =>
     have ip:=ih p e (hm p (by simp))
     have iq:=ih q e (hm q (by simp))
     have hp:=siz_pos n p
     have hq:=siz_pos n q
     have hp':=dep_pos n p
     have hq':=dep_pos n q
     simp only [List.map_cons,List.map_nil,List.sum_cons,List.sum_nil,List.foldr_cons,List.foldr_nil,List.all_cons,List.all_nil,Bool.and_true,ip,iq,Bool.and_eq_true]
     by_cases c1:alls n p=true <;> by_cases c2:dep n p≤e <;> by_cases c3:siz n p≤16 <;> by_cases c1':alls n q=true <;> by_cases c2':dep n q≤e <;> by_cases c3':siz n q≤16 <;> simp only [c1,c2,c3,c1',c2',c3',true_and,false_and,and_true,and_false,if_true,if_false,Bool.false_eq_true] <;> first|omega|(split <;> omega)
    | p :: q :: r :: l=>simp at hl;omega
   ·rw [if_neg hk,if_neg]
    simp [alls,hk]
theorem impl_isVariable_eq {c:Int} (h0:0≤c) (h1:c≤255):impl_isVariable.f c=some (isVr c):=by
 obtain ⟨n,rfl⟩:=Int.eq_ofNat_of_zero_le h0
 simp only [impl_isVariable.f,strings_IndexByte.f,Option.bind_some]
 rw [Int.toNat_natCast,← varI_isVar,← ix_XYZ n (by omega)]
theorem spec_l8Var_eq (c:Int):spec_l8Var.f c=some (isVr c):=by
 unfold spec_l8Var.f isVr
 by_cases h:c ≥ 88
 ·rw [if_pos h];simp [show 88≤c from h]
 ·rw [if_neg h];simp [show ¬ 88≤c from h]
def isT (c:Int):Bool:=decide (0≤ltI c) || isVr c
def isTm (s:ByteArray):Bool:=(bytesOf s).all isT && decide (s.size≤12)
theorem spec_IsTerm_ev (s:ByteArray) (hs:s.size≤9223372036854775807):Evt (fun k=>spec_IsTerm.f k s) (isTm s):=by
 have h:=Evt.up (fun k i=>spec_IsTerm.l0 k s i) s.size (fun i=>((bytesOf s).drop i).all isT && decide (s.size≤12)) ?_ ?_
 ·simpa [spec_IsTerm.f,isTm] using h
 ·refine Evt.step ?_
  simp only [spec_IsTerm.l0]
  rw [List.drop_of_length_le za79]
  refine Evt.neg (by omega) (Evt.const ?_)
  have e:((s.size:Int)≤12)=(s.size≤12):=by apply propext;omega
  simp [e]
 ·intro i hi h
  refine Evt.step ?_
  simp only [spec_IsTerm.l0]
  refine Evt.pos (by omega) (Evt.pos (by omega) (Evt.bind (spec_LetterIndex_ev _) ?_))
  have hl:i < (bytesOf s).length:=by rw [bytesOf_length];exact hi
  rw [List.drop_eq_getElem_cons hl,← bt_get s i hl,w64s (by omega)]
  by_cases hc:ltI (bt s i) < 0
  ·refine Evt.pos hc (Evt.bindc (spec_l8Var_eq _) ?_)
   by_cases hv:isVr (bt s i)=true
   ·exact Evt.pos hv (h.cast (by simp [isT,hv]))
   ·exact Evt.neg hv (Evt.const (by simp [isT,hv,show ¬ (0≤ltI (bt s i)) by omega]))
  ·exact Evt.neg hc (h.cast (by simp [isT,show 0≤ltI (bt s i) by omega]))
theorem impl_IsTerm_ev (s:ByteArray):Evt (fun k=>impl_IsTerm.f k s) (isTm s):=by
 simp only [impl_IsTerm.f]
 by_cases h12:(s.size:Int) > 12
 ·exact Evt.pos h12 (Evt.const (by simp [isTm,show ¬ s.size≤12 by omega]))
 refine Evt.neg h12 ?_
 have h:=Evt.up (fun k i=>impl_IsTerm.l0 k s i) s.size (fun i=>((bytesOf s).drop i).all isT) ?_ ?_
 ·exact h.cast (by simp [isTm,show s.size≤12 by omega])
 ·refine Evt.step ?_
  simp only [impl_IsTerm.l0]
  rw [List.drop_of_length_le za79]
  exact Evt.neg (by omega) (Evt.ret _)
 ·intro i hi h
  refine Evt.step ?_
  simp only [impl_IsTerm.l0]
  refine Evt.pos (by omega) (Evt.pos (by omega) (Evt.bindc (impl_LetterIndex_eq (bt0 _ _) (bt255 _ _)) ?_))
  have hl:i < (bytesOf s).length:=by rw [bytesOf_length];exact hi
  rw [List.drop_eq_getElem_cons hl,← bt_get s i hl,w64s (by omega)]
  by_cases hc:ltI (bt s i) < 0
  ·refine Evt.pos hc (Evt.bindc (impl_isVariable_eq (bt0 _ _) (bt255 _ _)) ?_)
   by_cases hv:isVr (bt s i)=true
   ·exact Evt.pos hv (h.cast (by simp [isT,hv]))
   ·exact Evt.neg hv (Evt.const (by simp [isT,hv,show ¬ (0≤ltI (bt s i)) by omega]))
  ·exact Evt.neg hc (h.cast (by simp [isT,show 0≤ltI (bt s i) by omega]))
def cntB (l:List Int) (c:Int):Nat:=l.count c
theorem spec_CountByte_ev (s:ByteArray) (c:Int) (hs:s.size≤9223372036854775807):Evt (fun k=>spec_CountByte.f k s c) ((cntB (bytesOf s) c:Nat):Int):=by
 have h:∀ d i n:Nat,i+d=s.size→n≤i→Evt (fun k=>spec_CountByte.l0 k s c (n:Int) (i:Int)) (((n+cntB ((bytesOf s).drop i) c:Nat)):Int):=by
  intro d
  induction d with
  | zero =>
   intro i n hi hn
   refine Evt.step ?_
   simp only [spec_CountByte.l0]
   rw [List.drop_of_length_le za79]
   exact Evt.neg (by omega) (Evt.const (by simp [cntB]))
  | succ d ih =>
   intro i n hi hn
   refine Evt.step ?_
   simp only [spec_CountByte.l0]
   have hl:i < (bytesOf s).length:=by rw [bytesOf_length];omega
   rw [List.drop_eq_getElem_cons hl,← bt_get s i hl,w64s (i:=i) (by omega),w64s (i:=n) (by omega)]
   refine Evt.pos (by omega) (Evt.pos (by omega) ?_)
   by_cases hc:bt s i=c
   ·exact Evt.pos hc ((ih (i+1) (n+1) (by omega) (by omega)).cast (by simp [cntB,hc];omega))
   ·exact Evt.neg hc ((ih (i+1) n (by omega) (by omega)).cast (by simp [cntB,hc]))
 have:=h s.size 0 0 (by omega) (by omega)
 simpa [spec_CountByte.f] using this
theorem cntB_pos (l:List Int) (c:Int):((cntB l c:Nat):Int) > 0 ↔ c ∈ l:=by
 unfold cntB
 rw [show (((l.count c:Nat):Int) > 0)=(0 < l.count c) by apply propext;omega]
 exact List.count_pos_iff
def vr (p:Int→Bool):Nat→Int→ByteArray→ByteArray
 | 0,_,acc=>acc
 | n+1,i,acc=>vr p n (i+1) (if p (bt (⟨#[88,89,90]⟩:ByteArray) i)=true then acc ++ ((⟨#[88,89,90]⟩:ByteArray).extract (i:Int).toNat ((i+1):Int).toNat) else acc)
def varsB (s:ByteArray):ByteArray:=vr (fun c=>decide (c ∈ bytesOf s)) 3 0 (⟨#[]⟩:ByteArray)
theorem ext_size (i:Int) (h0:0≤i) (h:i < 3):((⟨#[88,89,90]⟩:ByteArray).extract (i:Int).toNat ((i+1):Int).toNat).size=1:=by
 have:i=0∨i=1∨i=2:=by omega
 rcases this with rfl|rfl|rfl <;> rfl
theorem spec_VarsOf_ev (s:ByteArray) (hs:s.size≤9223372036854775807):Evt (fun k=>spec_VarsOf.f k s) (varsB s):=by
 have h:∀ (n:Nat) (i:Int) (acc:ByteArray),0≤i→i+n=3→acc.size+n≤3→Evt (fun k=>spec_VarsOf.l0 k s acc i) (vr (fun c=>decide (c ∈ bytesOf s)) n i acc):=by
  intro n
  induction n with
  | zero =>
   intro i acc h0 hi ha
   refine Evt.step ?_
   simp only [spec_VarsOf.l0]
   exact Evt.neg (by omega) (Evt.ret _)
  | succ n ih =>
   intro i acc h0 hi ha
   have hx:=ext_size i h0 (by omega)
   have hw:wrap64 (i+1)=i+1:=w64 (by omega) (by omega)
   refine Evt.step ?_
   simp only [spec_VarsOf.l0,hw,hx]
   refine Evt.pos (by omega) (Evt.pos (by omega) (Evt.bind (spec_CountByte_ev s _ hs) ?_))
   unfold vr
   by_cases hc:bt (⟨#[88,89,90]⟩:ByteArray) i ∈ bytesOf s
   ·refine Evt.pos ((cntB_pos _ _).2 hc) (Evt.pos (by omega) (Evt.pos (by omega) (Evt.pos (by omega) ?_)))
    exact (ih (i+1) _ (by omega) (by omega) (by rw [ByteArray.size_append,hx];omega)).cast (by simp [hc])
   ·exact Evt.neg (fun h=>hc ((cntB_pos _ _).1 h)) ((ih (i+1) acc (by omega) (by omega) (by omega)).cast (by simp [hc]))
 simpa [spec_VarsOf.f,varsB] using h 3 0 (⟨#[]⟩:ByteArray) (by omega) (by omega) (by decide)
theorem ib_nonneg (s:ByteArray) {c:Int} (h0:0≤c) (h1:c≤255):Lib.indexByte s.data.toList c.toNat.toUInt8 ≥ 0 ↔ c ∈ bytesOf s:=by
 obtain ⟨n,rfl⟩:=Int.eq_ofNat_of_zero_le h0
 rw [Int.toNat_natCast,ge_iff_le,indexByte_nonneg,mem_data s n (by omega)]
theorem impl_VarsOf_ev (s:ByteArray):Evt (fun k=>impl_VarsOf.f k s) (varsB s):=by
 have h:∀ (n:Nat) (i:Int) (acc:ByteArray),0≤i→i+n=3→acc.size+n≤3→Evt (fun k=>impl_VarsOf.l0 k s acc i) (vr (fun c=>decide (c ∈ bytesOf s)) n i acc):=by
  intro n
  induction n with
  | zero =>
   intro i acc h0 hi ha
   refine Evt.step ?_
   simp only [impl_VarsOf.l0]
   exact Evt.neg (by omega) (Evt.ret _)
  | succ n ih =>
   intro i acc h0 hi ha
   have hx:=ext_size i h0 (by omega)
   have hw:wrap64 (i+1)=i+1:=w64 (by omega) (by omega)
   refine Evt.step ?_
   simp only [impl_VarsOf.l0,hw,hx]
   refine Evt.pos (by omega) (Evt.pos (by omega) (Evt.bindc rfl ?_))
   unfold vr
   by_cases hc:bt (⟨#[88,89,90]⟩:ByteArray) i ∈ bytesOf s
   ·refine Evt.pos ((ib_nonneg s (bt0 _ _) (bt255 _ _)).2 hc) (Evt.pos (by omega) (Evt.pos (by omega) (Evt.pos (by omega) ?_)))
    exact (ih (i+1) _ (by omega) (by omega) (by rw [ByteArray.size_append,hx];omega)).cast (by simp [hc])
   ·exact Evt.neg (fun h=>hc ((ib_nonneg s (bt0 _ _) (bt255 _ _)).1 h)) ((ih (i+1) acc (by omega) (by omega) (by omega)).cast (by simp [hc]))
 simpa [impl_VarsOf.f,varsB] using h 3 0 (⟨#[]⟩:ByteArray) (by omega) (by omega) (by decide)
theorem impl_argsOf_ev (a:Int):Evt (fun k=>impl_argsOf.f k a) (if 1≤a∧a≤9 then (arN a:Int) else -1):=by
 refine ⟨3,fun k hk=>?_⟩
 obtain ⟨m,rfl⟩:∃ m,k=m+3:=⟨k - 3,by omega⟩
 have h:a=1∨a=2∨a=3∨a=4∨a=5∨a=6∨a=7∨a=8∨a=9∨¬ (1≤a∧a≤9):=by omega
 rcases h with rfl|rfl|rfl|rfl|rfl|rfl|rfl|rfl|rfl|h
 all_goals first
  | simp [impl_argsOf.f,impl_argsOf.j0,impl_argsOf.j1,arN,-Int.reduceNeg];done
  | skip
 rw [if_neg h]
 have e:∀ c:Int,1≤c→c≤9→¬ a=c:=fun c h1 h2 h3=>h (by omega)
 have eb:∀ c:Int,1≤c→c≤9→(a == c)=false:=fun c h1 h2=>by simpa using e c h1 h2
 simp [impl_argsOf.f,impl_argsOf.j0,impl_argsOf.j1,e 1,e 2,e 3,e 4,e 5,e 6,e 7,e 8,e 9,eb 4,eb 9]
theorem impl_nodesOf_j0t (v a:Int) (b:ByteArray) (l:List S54):Evt (fun k=>impl_nodesOf.j0 k v true a b l) 17:=by
 refine Evt.step ?_
 simp only [impl_nodesOf.j0]
 exact Evt.pos trivial (Evt.ret _)
theorem impl_nodesOf_l0 (n:Nat) (hn:n≤6) (l:List S54) (hl:l.length≤2) (ih:∀ x ∈ l,Evt (fun k=>impl_nodesOf.f k x.f0 x.f1 x.f2 (n:Int)) ((nds n x:Nat):Int)) :
  ∀ d i acc:Nat,i+d=l.length→acc≤1+17 * i→Evt (fun k=>impl_nodesOf.l0 k ((n+1:Nat):Int) (acc:Int) l (l.length:Int) (i:Int)) ((min (acc+((l.drop i).map (nds n)).sum) 17:Nat):Int):=by
 intro d
 induction d with
 | zero =>
  intro i acc hi ha
  refine Evt.step ?_
  simp only [impl_nodesOf.l0]
  refine Evt.neg (by omega) ((Evt.ret _).cast ?_)
  rw [List.drop_of_length_le (by omega)]
  simp only [mn,List.map_nil,List.sum_nil,Nat.add_zero]
  split <;> omega
 | succ d ihd =>
  intro i acc hi ha
  have hi':i < l.length:=by omega
  have hx:=nds_le n l[i]
  refine Evt.step ?_
  simp only [impl_nodesOf.l0]
  rw [rxI_at l i hi',w64s (by omega),w64 (x:=((n+1:Nat):Int) - 1) (by omega) (by omega),show ((n+1:Nat):Int) - 1=(n:Int) by omega]
  refine Evt.pos (by omega) (Evt.pos (by omega) (Evt.pos (by omega) (Evt.bind (ih _ (List.getElem_mem hi')) ?_)))
  rw [w64 (by omega) (by omega),show (acc:Int)+((nds n l[i]:Nat):Int)=((acc+nds n l[i]:Nat):Int) by omega]
  refine (ihd (i+1) (acc+nds n l[i]) (by omega) (by omega)).cast ?_
  rw [List.drop_eq_getElem_cons hi',List.map_cons,List.sum_cons,Nat.add_assoc]
theorem impl_nodesOf_ev (n:Nat):n≤6→∀ x:S54,Evt (fun k=>impl_nodesOf.f k x.f0 x.f1 x.f2 (n:Int)) ((nds n x:Nat):Int):=by
 induction n with
 | zero =>
  intro _ x
  refine Evt.step ?_
  simp only [impl_nodesOf.f]
  exact Evt.pos (by omega) ((impl_nodesOf_j0t _ _ _ _).cast (by simp [nds]))
 | succ n ih =>
  intro hn x
  refine Evt.step ?_
  simp only [impl_nodesOf.f]
  refine Evt.neg (by omega) (Evt.bind (impl_argsOf_ev _) ?_)
  unfold nds
  by_cases hlen:(x.f2.length:Int)=(if 1≤x.f0∧x.f0≤9 then (arN x.f0:Int) else -1)
  ·have e:((x.f2.length:Int) != (if 1≤x.f0∧x.f0≤9 then (arN x.f0:Int) else -1))=false:=by simp [hlen]
   rw [e]
   have hr:1≤x.f0∧x.f0≤9:=by
    by_cases hr:1≤x.f0∧x.f0≤9
    ·exact hr
    ·rw [if_neg hr] at hlen;omega
   rw [if_pos hr] at hlen
   have ha:=arN_le x.f0
   have hj1:Evt (fun k=>impl_nodesOf.j1 k ((n+1:Nat):Int) x.f0 x.f1 x.f2) ((min (1+(x.f2.map (nds n)).sum) 17:Nat):Int):=by
    refine Evt.step ?_
    simp only [impl_nodesOf.j1]
    have:=impl_nodesOf_l0 n (by omega) x.f2 (by omega) (fun y _=>ih (by omega) y) x.f2.length 0 1 (by omega) (by omega)
    simpa using this
   refine Evt.step ?_
   simp only [impl_nodesOf.j0]
   refine Evt.neg (by decide) ?_
   by_cases h3:x.f0=3
   ·refine Evt.pos h3 ?_
    have h0:x.f2.length=0:=by rw [h3] at hlen;simp [arN] at hlen;simp [hlen]
    by_cases h1:x.f1.size=1
    ·refine Evt.pos (by omega) (Evt.bind (impl_IsWord_ev _ (by omega)) ?_)
     cases hw:isW x.f1 with
     | true=>exact Evt.pos rfl (hj1.cast (by simp [kOk,h3,h1,hw,h0]))
     | false=>exact Evt.neg (by decide) ((Evt.ret _).cast (by simp [kOk,h3,h1,hw]))
    ·exact Evt.neg (by omega) ((Evt.ret _).cast (by simp [kOk,h3,h1]))
   ·refine Evt.neg h3 ?_
    by_cases h1:x.f1.size=0
    ·have h4:x.f2.length=arN x.f0:=by omega
     exact Evt.pos ((toList_nil_iff _).2 h1) (hj1.cast (by simp [kOk,h3,h1,hr,h4]))
    ·exact Evt.neg (fun h=>h1 ((toList_nil_iff _).1 h)) ((Evt.ret _).cast (by simp [kOk,h3,h1]))
  ·have e:((x.f2.length:Int) != (if 1≤x.f0∧x.f0≤9 then (arN x.f0:Int) else -1))=true:=bne_iff_ne.mpr hlen
   rw [e]
   refine (impl_nodesOf_j0t _ _ _ _).cast ?_
   rw [if_neg]
   ·rfl
   ·intro hk
    have:=kOk_len hk
    refine hlen ?_
    have hr:1≤x.f0∧x.f0≤9:=by
     unfold kOk at hk
     split at hk
     ·omega
     ·simp at hk;exact hk.1.1
    rw [if_pos hr];omega
theorem impl_IsValidRegex_ev (x:S54):Evt (fun k=>impl_IsValidRegex.f k x.f0 x.f1 x.f2) (decide (nds 6 x≤16)):=by
 simp only [impl_IsValidRegex.f]
 refine Evt.bind (impl_nodesOf_ev 6 (Nat.le_refl _) x) ((Evt.ret _).cast ?_)
 have e:(((nds 6 x:Nat):Int)≤16)=(nds 6 x≤16):=by apply propext;omega
 simp [e]
theorem spec_l3Left_ev (n:Nat):∀ x:S54,Ht n x→∀ v:Int,0≤v→v≤16→∃ r,Evt (fun k=>spec_l3Left.f k x.f0 x.f1 x.f2 v) r∧r≤16∧(if (siz n x:Int)≤v then r=v - siz n x else r < 0):=by
 induction n with
 | zero=>intro x h;exact h.elim
 | succ n ih =>
  rintro ⟨a,b,l⟩ ⟨hl,hm⟩ v h0 h1
  simp only at hl hm
  have hh:∀ d i:Nat,i+d=l.length→∀ u:Int,u≤16→∃ r,Evt (fun k=>spec_l3Left.l0 k u (i:Int) a b l) r∧r≤16∧(if ((((l.drop i).map (siz n)).sum:Nat):Int)≤u then r=u - (((l.drop i).map (siz n)).sum:Nat) else r < 0):=by
   intro d
   induction d with
   | zero =>
    intro i hi u hu
    refine ⟨u,Evt.step ?_,hu,?_⟩
    ·simp only [spec_l3Left.l0]
     exact Evt.neg (by omega) (Evt.ret _)
    ·rw [List.drop_of_length_le (by omega)]
     simp only [List.map_nil,List.sum_nil]
     split <;> omega
   | succ d ihd =>
    intro i hi u hu
    have hi':i < l.length:=by omega
    rw [List.drop_eq_getElem_cons hi',List.map_cons,List.sum_cons]
    by_cases hu0:u ≥ 0
    ·obtain ⟨r,hr,hr',hc⟩:=ih l[i] (hm _ (List.getElem_mem hi')) u hu0 hu
     obtain ⟨r2,hr2,hr2',hc2⟩:=ihd (i+1) (by omega) r hr'
     refine ⟨r2,Evt.step ?_,hr2',?_⟩
     ·simp only [spec_l3Left.l0]
      rw [rxI_at l i hi',w64s (by omega)]
      exact Evt.pos (by omega) (Evt.pos hu0 (Evt.pos (by omega) (Evt.bind hr hr2)))
     ·generalize (((l.drop (i+1)).map (siz n)).sum)=s at *
      generalize siz n l[i]=t at *
      split at hc <;> split at hc2 <;> split <;> omega
    ·refine ⟨u,Evt.step ?_,hu,?_⟩
     ·simp only [spec_l3Left.l0]
      exact Evt.pos (by omega) (Evt.neg hu0 (Evt.ret _))
     ·rw [if_neg (by omega)];omega
  obtain ⟨r,hr,hr',hc⟩:=hh l.length 0 (by omega) (v - 1) (by omega)
  refine ⟨r,Evt.step ?_,hr',?_⟩
  ·simp only [spec_l3Left.f]
   rw [w64 (by omega) (by omega)]
   exact hr
  ·rw [List.drop_zero] at hc
   have e:siz (n+1) (⟨a,b,l⟩:S54)=1+(l.map (siz n)).sum:=by simp [siz]
   by_cases hs:((siz (n+1) (⟨a,b,l⟩:S54):Nat):Int)≤v
   ·rw [if_pos hs]
    rw [if_pos (by omega)] at hc
    omega
   ·rw [if_neg hs]
    rw [if_neg (by omega)] at hc
    exact hc
theorem mem_sum {n:Nat} (l:List S54) (y:S54) (h:y ∈ l):siz n y≤(l.map (siz n)).sum:=by
 induction l with
 | nil=>cases h
 | cons x l ih =>
  rw [List.map_cons,List.sum_cons]
  rcases List.mem_cons.1 h with rfl|h
  ·omega
  ·have:=ih h;omega
theorem spec_l3Depth_ev (n:Nat):∀ x:S54,Ht n x→siz n x≤16→Evt (fun k=>spec_l3Depth.f k x.f0 x.f1 x.f2) (dep n x:Int):=by
 induction n with
 | zero=>intro x h;exact h.elim
 | succ n ih =>
  rintro ⟨a,b,l⟩ ⟨hl,hm⟩ hs
  simp only at hl hm
  simp only [siz] at hs
  have hx:∀ y ∈ l,siz n y≤16:=by
   intro y hy
   have:siz n y≤(l.map (siz n)).sum:=mem_sum l y hy
   omega
  have hh:∀ d i:Nat,i+d=l.length→∀ u:Nat,u≤16→Evt (fun k=>spec_l3Depth.l0 k (u:Int) (i:Int) a b l) ((max u (((l.drop i).map (dep n)).foldr max 0)+1:Nat):Int):=by
   intro d
   induction d with
   | zero =>
    intro i hi u hu
    refine Evt.step ?_
    simp only [spec_l3Depth.l0]
    rw [List.drop_of_length_le (by omega)]
    refine Evt.neg (by omega) ((Evt.ret _).cast ?_)
    rw [w64 (by omega) (by omega)]
    simp
   | succ d ihd =>
    intro i hi u hu
    have hi':i < l.length:=by omega
    have h1:=hx _ (List.getElem_mem hi')
    have h2:=dep_le_siz n l[i]
    refine Evt.step ?_
    simp only [spec_l3Depth.l0]
    rw [List.drop_eq_getElem_cons hi',List.map_cons,List.foldr_cons]
    rw [rxI_at l i hi',w64s (by omega)]
    refine Evt.pos (by omega) (Evt.pos (by omega) (Evt.bind (ih _ (hm _ (List.getElem_mem hi')) h1) (Evt.bindc (a:=((max u (dep n l[i]):Nat):Int)) ?_ ?_)))
    ·simp only [spec_l1Max.f]
     split
     ·congr 1;omega
     ·congr 1;omega
    ·refine (ihd (i+1) (by omega) (max u (dep n l[i])) (by omega)).cast ?_
     congr 1
     generalize ((l.drop (i+1)).map (dep n)).foldr max 0=z
     omega
  refine Evt.step ?_
  simp only [spec_l3Depth.f]
  refine (hh l.length 0 (by omega) 0 (by omega)).cast ?_
  simp [dep]
theorem spec_l3Args_ev (a:Int):Evt (fun k=>spec_l3Args.f k a) (arN a:Int):=by
 refine ⟨1,fun k hk=>?_⟩
 obtain ⟨m,rfl⟩:∃ m,k=m+1:=⟨k - 1,by omega⟩
 have h:a=5∨a=6∨a=7∨a=8∨a=9∨(a ≠ 5∧a ≠ 6∧a ≠ 7∧a ≠ 8∧a ≠ 9):=by omega
 rcases h with rfl|rfl|rfl|rfl|rfl|⟨h1,h2,h3,h4,h5⟩
 all_goals simp [spec_l3Args.f,spec_l3Args.j0,arN, *]
theorem spec_l3All_ev (n:Nat):∀ x:S54,Ht n x→Evt (fun k=>spec_l3All.f k x.f0 x.f1 x.f2) (alls n x):=by
 induction n with
 | zero=>intro x h;exact h.elim
 | succ n ih =>
  rintro ⟨a,b,l⟩ ⟨hl,hm⟩
  simp only at hl hm
  refine Evt.step ?_
  simp only [spec_l3All.f,alls]
  have hh:=Evt.up (fun k i=>spec_l3All.l0 k i a b l) l.length (fun i=>(l.drop i).all (alls n) && kOk a b l.length) ?_ ?_
  ·simpa using hh
  ·refine Evt.step ?_
   simp only [spec_l3All.l0]
   rw [List.drop_of_length_le (by omega)]
   refine Evt.neg (by omega) ?_
   simp only [List.all_nil,Bool.true_and]
   unfold kOk
   by_cases h3:a=3
   ·rw [if_pos h3]
    refine Evt.pos h3 ?_
    by_cases h1:b.size=1
    ·refine Evt.pos (by omega) (Evt.bind (spec_IsWord_ev _ (by omega)) ?_)
     cases hw:isW b with
     | true =>
      refine Evt.pos rfl ((Evt.ret _).cast ?_)
      have e:((l.length:Int) == 0)=decide (l.length=0):=by rw [show ((l.length:Int) == 0)=decide ((l.length:Int)=0) from rfl];congr 1;apply propext;omega
      simp [h1,e]
     | false=>exact Evt.neg (by decide) ((Evt.ret _).cast (by simp))
    ·exact Evt.neg (by omega) ((Evt.ret _).cast (by simp [h1]))
   ·rw [if_neg h3]
    refine Evt.neg h3 ?_
    by_cases hr:1≤a∧a≤9
    ·refine Evt.bindc (a:=true) (by simp [spec_l1In.f,hr.1,hr.2]) (Evt.pos rfl ?_)
     by_cases h1:b.size=0
     ·refine Evt.pos ((toList_nil_iff _).2 h1) (Evt.bind (spec_l3Args_ev _) ((Evt.ret _).cast ?_))
      have e:((l.length:Int) == (arN a:Int))=decide (l.length=arN a):=by rw [show ((l.length:Int) == (arN a:Int))=decide ((l.length:Int)=(arN a:Int)) from rfl];congr 1;apply propext;omega
      simp [h1,hr.1,hr.2,e]
     ·exact Evt.neg (fun h=>h1 ((toList_nil_iff _).1 h)) ((Evt.ret _).cast (by simp [h1]))
    ·refine Evt.bindc (a:=false) ?_ (Evt.neg (by decide) ((Evt.ret _).cast (by simp [hr])))
     simp only [spec_l1In.f]
     by_cases hr1:a ≥ 1
     ·rw [if_pos hr1];congr 1;simp;omega
     ·rw [if_neg hr1]
  ·intro i hi h
   refine Evt.step ?_
   simp only [spec_l3All.l0]
   rw [rxI_at l i hi,w64s (by omega),List.drop_eq_getElem_cons hi]
   refine Evt.pos (by omega) (Evt.pos (by omega) (Evt.bind (ih _ (hm _ (List.getElem_mem hi))) ?_))
   rw [List.all_cons]
   cases alls n l[i] with
   | true=>exact Evt.pos rfl (h.cast (by simp))
   | false=>exact Evt.neg (by decide) ((Evt.ret _).cast (by simp))
theorem spec_IsValidRegex_ev (x:S54) (h:Sm x):Evt (fun k=>spec_IsValidRegex.f k x.f0 x.f1 x.f2) (decide (nds 6 x≤16)):=by
 obtain ⟨n,hn⟩:=h.ht
 rw [nds_eq n x 6 hn]
 simp only [spec_IsValidRegex.f]
 obtain ⟨r,hr,_,hc⟩:=spec_l3Left_ev n x hn 16 (by omega) (by omega)
 refine Evt.bind hr ?_
 by_cases h1:siz n x≤16
 ·rw [if_pos (by omega)] at hc
  refine Evt.pos (by omega) (Evt.bind (spec_l3Depth_ev n x hn h1) ?_)
  by_cases h2:dep n x≤6
  ·refine Evt.pos (by omega) (Evt.bind (spec_l3All_ev n x hn) ((Evt.ret _).cast ?_))
   cases ha:alls n x <;> simp [h1,h2]
  ·exact Evt.neg (by omega) ((Evt.ret _).cast (by simp [h2]))
 ·rw [if_neg (by omega)] at hc
  exact Evt.neg (by omega) ((Evt.ret _).cast (by simp [h1]))
def zR (d:Int) (e:ByteArray) (l:List S54):Bool:=decide (d=0) && decide (e.size=0) && ((l.length:Int) == 0)
theorem spec_l9Zero_eq (d:Int) (e:ByteArray) (l:List S54):spec_l9Zero.f d e l=some (zR d e l):=by
 unfold spec_l9Zero.f zR
 by_cases h1:d=0
 ·by_cases h2:e.size=0
  ·rw [if_pos h1,if_pos ((toList_nil_iff _).2 h2)];simp [h1,h2]
  ·rw [if_pos h1,if_neg (fun h=>h2 ((toList_nil_iff _).1 h))];simp [h2]
 ·rw [if_neg h1];simp [h1]
theorem impl_isZeroRegex_eq (d:Int) (e:ByteArray) (l:List S54):impl_isZeroRegex.f d e l=some (zR d e l):=by
 unfold impl_isZeroRegex.f zR
 by_cases h1:d=0
 ·by_cases h2:e.size=0
  ·rw [if_pos h1,if_pos ((toList_nil_iff _).2 h2)];simp [h1,h2]
  ·rw [if_pos h1,if_neg (fun h=>h2 ((toList_nil_iff _).1 h))];simp [h2]
 ·rw [if_neg h1];simp [h1]
def inR (a lo hi:Int):Bool:=decide (lo≤a∧a≤hi)
theorem spec_l1In_eq (a lo hi:Int):spec_l1In.f a lo hi=some (inR a lo hi):=by
 unfold spec_l1In.f inR
 by_cases h:a ≥ lo
 ·rw [if_pos h];congr 1;simp [show lo≤a from h]
 ·rw [if_neg h];congr 1;simp;omega
theorem impl_within_eq (a lo hi:Int):impl_within.f a lo hi=some (inR a lo hi):=by
 unfold impl_within.f inR
 by_cases h:a ≥ lo
 ·rw [if_pos h];congr 1;simp [show lo≤a from h]
 ·rw [if_neg h];congr 1;simp;omega
def cfs (m:List Int):Bool:=m.all fun c=>inR c (-9) 9
theorem rdI_at (m:List Int) (i:Nat) (h:i < m.length):rd m (i:Int)=m[i]:=by simp [rd,h]
theorem spec_l9Coeffs_ev (m:List Int) (hm:m.length≤1048576):Evt (fun k=>spec_l9Coeffs.f k m) (cfs m && ((m.length:Int) == 3)):=by
 have h:=Evt.up (fun k i=>spec_l9Coeffs.l0 k m i) m.length (fun i=>cfs (m.drop i) && ((m.length:Int) == 3)) ?_ ?_
 ·simpa [spec_l9Coeffs.f] using h
 ·refine Evt.step ?_
  simp only [spec_l9Coeffs.l0]
  rw [List.drop_of_length_le (by omega)]
  exact Evt.neg (by omega) ((Evt.ret _).cast (by simp [cfs]))
 ·intro i hi h
  refine Evt.step ?_
  simp only [spec_l9Coeffs.l0]
  rw [rdI_at m i hi,w64s (by omega),List.drop_eq_getElem_cons hi]
  refine Evt.pos (by omega) (Evt.pos (by omega) (Evt.bindc (spec_l1In_eq _ _ _) ?_))
  have e:cfs (m[i] :: m.drop (i+1))=(inR m[i] (-9) 9 && cfs (m.drop (i+1))):=rfl
  rw [e]
  cases inR m[i] (-9) 9 with
  | true=>exact Evt.pos rfl (h.cast (by simp))
  | false=>exact Evt.neg (by decide) ((Evt.ret _).cast (by simp))
theorem impl_coeffs_ev (m:List Int) (hm:m.length≤1048576):Evt (fun k=>slices_ContainsFunc_int_int.f k m) (!cfs m):=by
 simp only [slices_ContainsFunc_int_int.f,slices_IndexFunc_int_int.f]
 have h:∀ d i:Nat,i+d=m.length→∃ r,Evt (fun k=>slices_IndexFunc_int_int.l0 k m (m.length:Int) (i:Int)) r∧decide (r ≥ 0) = !cfs (m.drop i):=by
  intro d
  induction d with
  | zero =>
   intro i hi
   refine ⟨-1,Evt.step ?_,?_⟩
   ·simp only [slices_IndexFunc_int_int.l0]
    exact Evt.neg (by omega) (Evt.ret _)
   ·rw [List.drop_of_length_le (by omega)];rfl
  | succ d ih =>
   intro i hi
   have hi':i < m.length:=by omega
   have e:cfs (m[i] :: m.drop (i+1))=(inR m[i] (-9) 9 && cfs (m.drop (i+1))):=rfl
   rw [List.drop_eq_getElem_cons hi',e]
   obtain ⟨r,hr,hc⟩:=ih (i+1) (by omega)
   cases hq:inR m[i] (-9) 9 with
   | true =>
    refine ⟨r,Evt.step ?_,by simpa using hc⟩
    simp only [slices_IndexFunc_int_int.l0,impl_IsValidConstraint_1.f]
    rw [rdI_at m i hi',w64s (by omega)]
    exact Evt.pos (by omega) (Evt.pos (by omega) (Evt.pos (by omega) (Evt.bind (Evt.bindc (impl_within_eq _ _ _) (Evt.ret _)) (Evt.neg (by simp [hq]) hr))))
   | false =>
    refine ⟨(i:Int),Evt.step ?_,by simp⟩
    simp only [slices_IndexFunc_int_int.l0,impl_IsValidConstraint_1.f]
    rw [rdI_at m i hi']
    exact Evt.pos (by omega) (Evt.pos (by omega) (Evt.pos (by omega) (Evt.bind (Evt.bindc (impl_within_eq _ _ _) (Evt.ret _)) (Evt.pos (by simp [hq]) (Evt.ret _)))))
 obtain ⟨r,hr,hc⟩:=h m.length 0 (by omega)
 exact Evt.bind hr ((Evt.ret _).cast (by rw [hc];rfl))
def valX (x:Bool) (a:Int) (b c:ByteArray) (d:Int) (e:ByteArray) (l:List S54) (m:List Int) (n:Int):Bool :=
 if a=1∨a=2 then isTm b && (isTm c && (zR d e l && x))
 else if a=3∨a=4 then isTm b && (decide (c.size=0) && (decide (nds 6 ⟨d,e,l⟩≤16) && x))
 else if a=5 then decide (b.size=0) && (decide (c.size=0) && (zR d e l && ((cfs m && ((m.length:Int) == 3)) && inR n (-99) 99)))
 else false
def valC (a:Int) (b c:ByteArray) (d:Int) (e:ByteArray) (l:List S54) (m:List Int) (n:Int):Bool :=
 valX (decide (m.length=0) && (n == 0)) a b c d e l m n
section
variable {a : Int} {b c : ByteArray} {d : Int} {e : ByteArray} {l : List S54} {m : List Int} {n : Int}
theorem and_ev {g h:Nat→Option Bool} {p q:Bool} (hg:Evt g p) (hh:p=true→Evt h q):Evt (fun k=>(g k).bind fun t=>if t=true then h k else some false) (p && q):=by
 refine Evt.bind hg ?_
 cases p with
 | true=>exact Evt.pos rfl ((hh rfl).cast (by simp))
 | false=>exact Evt.neg (by decide) ((Evt.ret _).cast (by simp))
theorem nil_ev {s:ByteArray} {h:Nat→Option Bool} {q:Bool} (hh:s.size=0→Evt h q):Evt (fun k=>if s.toList=([]:List UInt8) then h k else some false) (decide (s.size=0) && q):=by
 by_cases hs:s.size=0
 ·exact Evt.pos ((toList_nil_iff _).2 hs) ((hh hs).cast (by simp [hs]))
 ·exact Evt.neg (fun h=>hs ((toList_nil_iff _).1 h)) ((Evt.ret _).cast (by simp [hs]))
theorem last_ev {g:Nat→Option Bool} {p:Bool} (hg:Evt g p):Evt (fun k=>(g k).bind fun t=>some t) p:=Evt.bind hg (Evt.ret _)
theorem spec_j1t (x:Bool) (v:Int) (hb:b.size≤9223372036854775807) (hc:c.size≤9223372036854775807):Evt (fun k=>spec_IsValidConstraint.j1 k x v true a b c d e l m n) (isTm b && (isTm c && (zR d e l && x))):=by
 refine Evt.step ?_
 simp only [spec_IsValidConstraint.j1]
 exact Evt.pos trivial (and_ev (spec_IsTerm_ev b hb) fun _=>and_ev (spec_IsTerm_ev c hc) fun _=>and_ev (Evt.const (spec_l9Zero_eq d e l)) fun _=>Evt.ret _)
theorem spec_j2t (x:Bool) (v:Int) (hb:b.size≤9223372036854775807) (hr:Sm ⟨d,e,l⟩):Evt (fun k=>spec_IsValidConstraint.j2 k x v true a b c d e l m n) (isTm b && (decide (c.size=0) && (decide (nds 6 ⟨d,e,l⟩≤16) && x))):=by
 refine Evt.step ?_
 simp only [spec_IsValidConstraint.j2]
 exact Evt.pos trivial (and_ev (spec_IsTerm_ev b hb) fun _=>nil_ev fun _=>and_ev (spec_IsValidRegex_ev ⟨d,e,l⟩ hr) fun _=>Evt.ret _)
theorem spec_IsValidConstraint_ev (hb:b.size≤9223372036854775807) (hc:c.size≤9223372036854775807) (hr:Sm ⟨d,e,l⟩) (hm:m.length≤1048576):Evt (fun k=>spec_IsValidConstraint.f k a b c d e l m n) (valC a b c d e l m n):=by
 have hj:∀ x:Bool,Evt (fun k=>spec_IsValidConstraint.j0 k x a b c d e l m n) (valX x a b c d e l m n):=by
  intro x
  refine Evt.step ?_
  simp only [spec_IsValidConstraint.j0]
  unfold valX
  by_cases h1:a=1
  ·subst h1;exact Evt.pos rfl ((spec_j1t x _ hb hc).cast (by simp))
  refine Evt.neg h1 ?_
  by_cases h2:a=2
  ·subst h2;exact (spec_j1t x _ hb hc).cast (by simp)
  rw [show (a == 2)=false by simpa using h2,if_neg (by omega)]
  refine Evt.step ?_
  simp only [spec_IsValidConstraint.j1]
  refine Evt.neg (by decide) ?_
  by_cases h3:a=3
  ·subst h3;exact Evt.pos rfl ((spec_j2t x _ hb hr).cast (by simp))
  refine Evt.neg h3 ?_
  by_cases h4:a=4
  ·subst h4;exact (spec_j2t x _ hb hr).cast (by simp)
  rw [show (a == 4)=false by simpa using h4,if_neg (by omega)]
  refine Evt.step ?_
  simp only [spec_IsValidConstraint.j2]
  refine Evt.neg (by decide) ?_
  by_cases h5:a=5
  ·rw [if_pos h5]
   exact Evt.pos h5 (nil_ev fun _=>nil_ev fun _=>and_ev (Evt.const (spec_l9Zero_eq d e l)) fun _=>and_ev (spec_l9Coeffs_ev m hm) fun _=>last_ev (Evt.const (spec_l1In_eq _ _ _)))
  ·rw [if_neg h5]
   exact Evt.neg h5 (Evt.ret _)
 simp only [spec_IsValidConstraint.f]
 unfold valC
 by_cases h0:m.length=0
 ·exact Evt.pos (by omega) ((hj _).cast (by simp [h0]))
 ·exact Evt.neg (by omega) ((hj _).cast (by simp [h0]))
theorem impl_j1t (v:Int):Evt (fun k=>impl_IsValidConstraint.j1 k v true a b c d e l m n) (isTm b && (isTm c && (zR d e l))):=by
 refine Evt.step ?_
 simp only [impl_IsValidConstraint.j1]
 exact Evt.pos trivial (and_ev (impl_IsTerm_ev b) fun _=>and_ev (impl_IsTerm_ev c) fun _=>last_ev (Evt.const (impl_isZeroRegex_eq d e l)))
theorem impl_j2t (v:Int):Evt (fun k=>impl_IsValidConstraint.j2 k v true a b c d e l m n) (isTm b && (decide (c.size=0) && (decide (nds 6 ⟨d,e,l⟩≤16)))):=by
 refine Evt.step ?_
 simp only [impl_IsValidConstraint.j2]
 exact Evt.pos trivial (and_ev (impl_IsTerm_ev b) fun _=>nil_ev fun _=>last_ev (impl_IsValidRegex_ev ⟨d,e,l⟩))
theorem impl_j0t:Evt (fun k=>impl_IsValidConstraint.j0 k true a b c d e l m n) false:=by
 refine Evt.step ?_
 simp only [impl_IsValidConstraint.j0]
 exact Evt.pos trivial (Evt.ret _)
theorem impl_IsValidConstraint_ev (hm:m.length≤1048576):Evt (fun k=>impl_IsValidConstraint.f k a b c d e l m n) (valC a b c d e l m n):=by
 have hj:Evt (fun k=>impl_IsValidConstraint.j0 k false a b c d e l m n) (valX true a b c d e l m n):=by
  refine Evt.step ?_
  simp only [impl_IsValidConstraint.j0]
  unfold valX
  refine Evt.neg (by decide) ?_
  by_cases h1:a=1
  ·subst h1;exact Evt.pos rfl ((impl_j1t _).cast (by simp))
  refine Evt.neg h1 ?_
  by_cases h2:a=2
  ·subst h2;exact (impl_j1t _).cast (by simp)
  rw [show (a == 2)=false by simpa using h2,if_neg (by omega)]
  refine Evt.step ?_
  simp only [impl_IsValidConstraint.j1]
  refine Evt.neg (by decide) ?_
  by_cases h3:a=3
  ·subst h3;exact Evt.pos rfl ((impl_j2t _).cast (by simp))
  refine Evt.neg h3 ?_
  by_cases h4:a=4
  ·subst h4;exact (impl_j2t _).cast (by simp)
  rw [show (a == 4)=false by simpa using h4,if_neg (by omega)]
  refine Evt.step ?_
  simp only [impl_IsValidConstraint.j2]
  refine Evt.neg (by decide) ?_
  by_cases h5:a=5
  ·rw [if_pos h5]
   refine Evt.pos h5 (nil_ev fun _=>nil_ev fun _=>and_ev (Evt.const (impl_isZeroRegex_eq d e l)) fun _=>?_)
   by_cases h3':m.length=3
   ·refine Evt.pos (by omega) ?_
    rw [show ((m.length:Int) == 3)=true by simp [h3'],Bool.and_true,Bool.and_comm (cfs m)]
    exact and_ev (Evt.const (impl_within_eq _ _ _)) fun _=>Evt.bind (impl_coeffs_ev m hm) ((Evt.ret _).cast (by simp))
   ·refine Evt.neg (by omega) ((Evt.ret _).cast ?_)
    have e3:((m.length:Int) == 3)=false:=by simp;omega
    simp [e3]
  ·rw [if_neg h5]
   exact Evt.neg h5 (Evt.ret _)
 simp only [impl_IsValidConstraint.f]
 unfold valC
 have hx:∀ x,a=5→valX x a b c d e l m n=valX true a b c d e l m n:=by
  intro x h;subst h;simp [valX]
 have hy:¬ a=5→valX false a b c d e l m n=false:=by
  intro h;unfold valX;simp [h]
 by_cases h5:a=5
 ·exact Evt.pos h5 (hj.cast (hx _ h5).symm)
 refine Evt.neg h5 ?_
 by_cases h0:m.length=0
 ·refine Evt.pos (by omega) ?_
  by_cases hn:n=0
  ·rw [show (n != 0)=false by simp [hn]]
   exact hj.cast (by simp [h0,hn])
  ·rw [show (n != 0)=true by simp [hn]]
   exact impl_j0t.cast (by rw [show (n == 0)=false by simp [hn]];simp [hy h5])
 ·exact Evt.neg (by omega) (impl_j0t.cast (by simp [h0,hy h5]))
end
theorem bytesOf_strOf (s:ByteArray):strOfNums (bytesOf s)=s:=by
 apply bytesOf_inj
 unfold strOfNums bytesOf
 simp
theorem one_byte (s:ByteArray) (i:Nat) (h:i < s.size):bytesOf (s.extract i (i+1)) = [bt s (i:Int)]:=by
 have hl:i < (bytesOf s).length:=by rw [bytesOf_length];exact h
 rw [bytesOf_extract,List.drop_eq_getElem_cons hl,bt_get s i hl,show i+1 - i=1 by omega]
 rfl
theorem size_le_of (s:ByteArray):s.size=(bytesOf s).length:=(bytesOf_length s).symm
theorem strOfNums_size (l:List Int):(strOfNums l).size=l.length:=by
 unfold strOfNums
 show (List.toArray _).size=_
 simp
theorem impl_ApplyValues_eq (s x y z:ByteArray) (hs:s.size≤9223372036854775807) (hx:x.size≤1048576) (hy:y.size≤1048576) (hz:z.size≤1048576):impl_ApplyValues.f s x y z=some (replB (wordOf x y z) s):=by
 unfold impl_ApplyValues.f
 rw [if_pos ⟨hs,hx,hy,hz⟩]
theorem wordOf_var (x y z:ByteArray) {c:Int} (h0:0≤c) (h1:c≤255):(wordOf x y z c).2=isVr c:=by
 unfold wordOf
 rw [impl_isVariable_eq h0 h1]
 rfl
theorem spec_ValueOf_eq (x y z:ByteArray) (c:Int):spec_ValueOf.f x y z c=some (wordOf x y z c).1:=valueOf_some x y z c
theorem spec_ApplyValues_ev (s x y z:ByteArray) (hs:s.size≤9223372036854775807) (hx:x.size≤1048576) (hy:y.size≤1048576) (hz:z.size≤1048576):Evt (fun k=>spec_ApplyValues.f k s x y z) (replB (wordOf x y z) s):=by
 have h:∀ (d i:Nat) (acc:ByteArray),i+d=s.size→acc.size≤1048576→Evt (fun k=>spec_ApplyValues.l0 k s acc (i:Int) x y z) (strOfNums (repl (wordOf x y z) ((bytesOf s).drop i) (bytesOf acc))):=by
  intro d
  induction d with
  | zero =>
   intro i acc hi ha
   refine Evt.step ?_
   simp only [spec_ApplyValues.l0]
   refine Evt.neg (by omega) (Evt.const ?_)
   rw [List.drop_of_length_le za79]
   exact congrArg some (bytesOf_strOf acc).symm
  | succ d ih =>
   intro i acc hi ha
   have hl:i < (bytesOf s).length:=by rw [bytesOf_length];omega
   have hx1:((s.extract i (i+1)).size:Nat)=1:=by rw [size_le_of,one_byte s i (by omega)];rfl
   refine Evt.step ?_
   simp only [spec_ApplyValues.l0]
   rw [w64s (by omega),Int.toNat_natCast,Int.toNat_natCast]
   rw [List.drop_eq_getElem_cons hl,← bt_get s i hl]
   have hv:=wordOf_var x y z (bt0 s i) (bt255 s i)
   have hw:=wordOf_size x y z (bt s i) hx hy hz
   have hs2:=spec_ValueOf_eq x y z (bt s i)
   refine Evt.pos (by omega) (Evt.pos (by omega) (Evt.bindc (spec_l8Var_eq _) ?_))
   by_cases hc:isVr (bt s i)=true
   ·have e:(if (wordOf x y z (bt s (i:Int))).2=true then bytesOf (wordOf x y z (bt s (i:Int))).1 else [bt s (i:Int)])=bytesOf (wordOf x y z (bt s (i:Int))).1:=by rw [hv,if_pos hc]
    refine Evt.pos hc (Evt.bindc hs2 (Evt.pos (by omega) ?_))
    by_cases hbig:((acc ++ (wordOf x y z (bt s (i:Int))).1).size:Int) > 1048576
    ·refine Evt.pos hbig (Evt.const ?_)
     unfold repl
     simp only [e]
     rw [if_pos (by rw [← bytesOf_append,bytesOf_length];omega)]
     rfl
    ·refine Evt.neg hbig ((ih (i+1) (acc ++ (wordOf x y z (bt s (i:Int))).1) (by omega) (by omega)).cast ?_)
     rw [bytesOf_append]
     conv=>rhs;unfold repl
     simp only [e]
     rw [if_neg (by rw [← bytesOf_append,bytesOf_length];omega)]
   ·have e:(if (wordOf x y z (bt s (i:Int))).2=true then bytesOf (wordOf x y z (bt s (i:Int))).1 else [bt s (i:Int)]) = [bt s (i:Int)]:=by rw [hv,if_neg hc]
    refine Evt.neg hc (Evt.pos (by omega) (Evt.pos (by omega) (Evt.pos (by omega) ?_)))
    by_cases hbig:((acc ++ s.extract i (i+1)).size:Int) > 1048576
    ·refine Evt.pos hbig (Evt.const ?_)
     unfold repl
     simp only [e]
     rw [if_pos (by rw [← one_byte s i (by omega),← bytesOf_append,bytesOf_length];omega)]
     rfl
    ·refine Evt.neg hbig ((ih (i+1) (acc ++ s.extract i (i+1)) (by omega) (by omega)).cast ?_)
     rw [bytesOf_append,one_byte s i (by omega)]
     conv=>rhs;unfold repl
     simp only [e]
     rw [if_neg (by rw [← one_byte s i (by omega),← bytesOf_append,bytesOf_length];omega)]
 have:=h s.size 0 (⟨#[]⟩:ByteArray) (by omega) (by decide)
 rw [show bytesOf (⟨#[]⟩:ByteArray) = [] from rfl] at this
 simpa [spec_ApplyValues.f,replB] using this
theorem rx_of_nds:∀ (n m:Nat) (x:S54),n≤m→nds n x≤16→∃ t,rxOf m x=some t∧t.size=nds n x:=by
 intro n
 induction n with
 | zero=>intro m x _ h;exact absurd h (by simp [nds])
 | succ n ih =>
  intro m x hm h
  obtain ⟨m,rfl⟩:∃ m',m=m'+1:=⟨m - 1,by omega⟩
  unfold nds at h ⊢
  by_cases hk:kOk x.f0 x.f1 x.f2.length=true
  ·rw [if_pos hk] at h ⊢
   obtain ⟨a,b,l⟩:=x
   simp only at hk h ⊢
   have hlen:=kOk_len hk
   match l,hk,h,hlen with
   | [],hk,h,hlen =>
    have ha:a=1∨a=2∨a=3∨a=4:=by
     by_cases h3:a=3
     ·exact .inr (.inr (.inl h3))
     ·simp only [kOk,if_neg h3,Bool.and_eq_true,decide_eq_true_eq] at hk
      unfold arN at hlen
      simp only [List.length_nil] at hlen
      split at hlen
      ·omega
      ·split at hlen <;> omega
    rcases ha with rfl|rfl|rfl|rfl <;> exact ⟨_,rfl,rfl⟩
   | [x],hk,h,hlen =>
    simp only [List.map_cons,List.map_nil,List.sum_cons,List.sum_nil] at h ⊢
    obtain ⟨t,h1,h2⟩:=ih m x (by omega) (by omega)
    have ha:a=8∨a=9:=by
     unfold arN at hlen
     simp only [List.length_cons,List.length_nil] at hlen
     split at hlen
     ·omega
     ·split at hlen <;> omega
    rcases ha with rfl|rfl <;> refine ⟨_,by simp only [rxOf,h1];rfl,?_⟩ <;> simp only [Rx.size,h2] <;> omega
   | [x,y],hk,h,hlen =>
    simp only [List.map_cons,List.map_nil,List.sum_cons,List.sum_nil] at h ⊢
    obtain ⟨t,h1,h2⟩:=ih m x (by omega) (by omega)
    obtain ⟨u,h3,h4⟩:=ih m y (by omega) (by omega)
    have ha:a=5∨a=6∨a=7:=by
     unfold arN at hlen
     simp only [List.length_cons,List.length_nil] at hlen
     split at hlen
     ·assumption
     ·split at hlen <;> omega
    rcases ha with rfl|rfl|rfl <;> refine ⟨_,by simp only [rxOf,h1,h3];rfl,?_⟩ <;> simp only [Rx.size,h2,h4] <;> omega
   | _ :: _ :: _ :: _,hk,h,hlen =>
    have:=arN_le a
    simp only [List.length_cons] at hlen
    omega
  ·rw [if_neg hk] at h
   omega
theorem repl_le (G:Int→ByteArray × Bool) (m:Nat) (hm:1≤m) (hG:∀ c,(G c).1.size≤m):∀ (l acc:List Int),(repl G l acc).length≤acc.length+m * l.length:=by
 intro l
 induction l with
 | nil=>intro acc;exact Nat.le_refl _
 | cons c l ih =>
  intro acc
  have h1:(if (G c).2=true then bytesOf (G c).1 else [c]).length≤m:=by
   split
   ·rw [bytesOf_length];exact hG c
   ·exact hm
  unfold repl
  by_cases h2:(acc ++ (if (G c).2=true then bytesOf (G c).1 else [c])).length > 1048576
  ·rw [if_pos h2]
   exact Nat.zero_le _
  ·rw [if_neg h2]
   refine Nat.le_trans (ih _) ?_
   rw [List.length_append,List.length_cons,Nat.mul_succ]
   omega
theorem replB_le (G:Int→ByteArray × Bool) (m:Nat) (hm:1≤m) (hG:∀ c,(G c).1.size≤m) (s:ByteArray):(replB G s).size≤m * s.size:=by
 have:=repl_le G m hm hG (bytesOf s) []
 unfold replB
 rw [strOfNums_size]
 rw [bytesOf_length] at this
 simpa using this
theorem wordOf_le (x y z:ByteArray) (m:Nat) (hx:x.size≤m) (hy:y.size≤m) (hz:z.size≤m) (c:Int):(wordOf x y z c).1.size≤m:=by
 unfold wordOf impl_ValueOf.f
 repeat' split
 all_goals first|exact hx|exact hy|exact hz|exact Nat.zero_le _
theorem rxMatch_def (d:Int) (e:ByteArray) (l:List S54) (s:ByteArray) (h:nds 6 ⟨d,e,l⟩≤16) (hs:s.size≤400):∃ r,rxMatch d e l s=some r:=by
 obtain ⟨t,h1,h2⟩:=rx_of_nds 6 7 _ (by omega) h
 refine ⟨mt s t 0 s.size,?_⟩
 unfold rxMatch
 rw [if_pos hs,h1]
 show (if t.size≤16 then _ else _)=_
 rw [if_pos (by omega)]
theorem isW_size {s:ByteArray} (h:isW s=true):s.size≤30:=by
 simp only [isW,Bool.and_eq_true,decide_eq_true_eq] at h
 exact h.2
def isVs (x y z:ByteArray):Bool:=isW x && (isW y && isW z)
theorem spec_IsValues_ev (x y z:ByteArray) (hx:x.size≤9223372036854775807) (hy:y.size≤9223372036854775807) (hz:z.size≤9223372036854775807):Evt (fun k=>spec_IsValues.f k x y z) (isVs x y z) :=
 and_ev (spec_IsWord_ev x hx) fun _=>and_ev (spec_IsWord_ev y hy) fun _=>last_ev (spec_IsWord_ev z hz)
theorem impl_IsValues_ev (x y z:ByteArray) (hx:x.size≤9223372036854775807) (hy:y.size≤9223372036854775807) (hz:z.size≤9223372036854775807):Evt (fun k=>impl_IsValues.f k x y z) (isVs x y z) :=
 and_ev (impl_IsWord_ev x hx) fun _=>and_ev (impl_IsWord_ev y hy) fun _=>last_ev (impl_IsWord_ev z hz)
section
variable {a : Int} {b c : ByteArray} {d : Int} {e : ByteArray} {l : List S54} {m : List Int} {n : Int} {x y z : ByteArray}
theorem valC_use (h:valC a b c d e l m n=true):((a=1∨a=2)∧b.size≤12∧c.size≤12)∨((a=3∨a=4)∧b.size≤12∧nds 6 ⟨d,e,l⟩≤16)∨(a=5∧b.size≤12∧m.length=3):=by
 unfold valC valX at h
 split at h
 ·next ha =>
  simp only [isTm,Bool.and_eq_true,decide_eq_true_eq,beq_iff_eq] at h
  obtain ⟨⟨_,h1⟩,⟨_,h2⟩,_⟩:=h
  exact .inl ⟨ha,by omega,by omega⟩
 ·split at h
  ·next ha =>
   simp only [isTm,Bool.and_eq_true,decide_eq_true_eq,beq_iff_eq] at h
   obtain ⟨⟨_,h1⟩,_,h3,_⟩:=h
   exact .inr (.inl ⟨ha,by omega,h3⟩)
  ·split at h
   ·next ha =>
    simp only [Bool.and_eq_true,decide_eq_true_eq,beq_iff_eq] at h
    obtain ⟨h1,_,_,⟨_,h4⟩,_⟩:=h
    exact .inr (.inr ⟨ha,by omega,by omega⟩)
   ·cases h
theorem holds_ev (hv:valC a b c d e l m n=true) (hw:isVs x y z=true):∃ r,Evt (fun k=>spec_l9Holds.f k a b c d e l m n x y z) r∧impl_holds.f a b c d e l m n x y z=some r:=by
 simp only [isVs,Bool.and_eq_true] at hw
 have hx:=isW_size hw.1
 have hy:=isW_size hw.2.1
 have hz:=isW_size hw.2.2
 have hsz:∀ s:ByteArray,s.size≤12→(replB (wordOf x y z) s).size≤400:=fun s hs=>by
  have:=replB_le (wordOf x y z) 30 (by omega) (wordOf_le x y z 30 hx hy hz) s
  omega
 have sp:∀ s:ByteArray,s.size≤12→Evt (fun k=>spec_ApplyValues.f k s x y z) (replB (wordOf x y z) s):=fun s hs=>spec_ApplyValues_ev s x y z (by omega) (by omega) (by omega) (by omega)
 have im:∀ s:ByteArray,s.size≤12→impl_ApplyValues.f s x y z=some (replB (wordOf x y z) s):=fun s hs=>impl_ApplyValues_eq s x y z (by omega) (by omega) (by omega) (by omega)
 simp only [spec_l9Holds.f]
 unfold impl_holds.f
 rcases valC_use hv with ⟨ha,hb,hc⟩|⟨ha,hb,hn⟩|⟨ha,hb,hl⟩
 ·rcases ha with rfl|rfl
  ·exact ⟨_,Evt.bind (sp b hb) (Evt.pos rfl (Evt.bind (sp c hc) (Evt.ret _))),by rw [im b hb,im c hc];rfl⟩
  ·exact ⟨_,Evt.bind (sp b hb) (Evt.neg (by decide) (Evt.pos rfl (Evt.bind (sp c hc) (Evt.ret _)))),by rw [im b hb,im c hc];rfl⟩
 ·obtain ⟨r,hr⟩:=rxMatch_def d e l (replB (wordOf x y z) b) hn (hsz b hb)
  rcases ha with rfl|rfl
  ·exact ⟨r,Evt.bind (sp b hb) (Evt.neg (by decide) (Evt.neg (by decide) (Evt.pos rfl (Evt.bindc hr (Evt.ret _))))),by rw [im b hb,Option.bind_some,if_neg (show ¬ (3:Int)=1 by decide),if_neg (show ¬ (3:Int)=2 by decide),if_pos rfl,show impl_matches.f d e l (replB (wordOf x y z) b)=some r from hr];rfl⟩
  ·exact ⟨!r,Evt.bind (sp b hb) (Evt.neg (by decide) (Evt.neg (by decide) (Evt.neg (by decide) (Evt.pos rfl (Evt.bindc hr (Evt.ret _)))))),by rw [im b hb,Option.bind_some,if_neg (show ¬ (4:Int)=1 by decide),if_neg (show ¬ (4:Int)=2 by decide),if_neg (show ¬ (4:Int)=3 by decide),if_pos rfl,show impl_matches.f d e l (replB (wordOf x y z) b)=some r from hr];rfl⟩
 ·subst ha
  have h0:(0:Int) < (m.length:Int):=by omega
  have h1:(1:Int) < (m.length:Int):=by omega
  have h2:(2:Int) < (m.length:Int):=by omega
  have hs:spec_l9Sum.f m x y z=some (wrap64 ((wrap64 ((wrap64 ((rd m 0) * (x.size:Int)))+(wrap64 ((rd m 1) * (y.size:Int)))))+(wrap64 ((rd m 2) * (z.size:Int))))):=by
   unfold spec_l9Sum.f
   rw [if_pos h0,if_pos h1,if_pos h2]
  refine ⟨_,Evt.bind (sp b hb) (Evt.neg (by decide) (Evt.neg (by decide) (Evt.neg (by decide) (Evt.neg (by decide) (Evt.bindc hs (Evt.ret _)))))),?_⟩
  rw [im b hb,Option.bind_some,if_neg (show ¬ (5:Int)=1 by decide),if_neg (show ¬ (5:Int)=2 by decide),if_neg (show ¬ (5:Int)=3 by decide),if_neg (show ¬ (5:Int)=4 by decide),if_pos h0,if_pos h1,if_pos h2]
end
theorem csI_at (l:List S56) (i:Nat) (h:i < l.length):rd_T56 l (i:Int)=l[i]:=by simp [rd_T56,h]
def CsSm (y:S56):Prop:=Sm y.f3∧y.f4.length≤1048576∧y.f1.size≤1048576∧y.f2.size≤1048576
section
variable {a : Int} {b c : ByteArray} {d : Int} {e : ByteArray} {l : List S54} {m : List Int} {n : Int}
theorem valC_bounds (h:valC a b c d e l m n=true):m.length≤3∧b.size≤12∧c.size≤12:=by
 unfold valC valX at h
 split at h
 ·simp only [isTm,Bool.and_eq_true,decide_eq_true_eq,beq_iff_eq] at h
  obtain ⟨⟨_,h1⟩,⟨_,h2⟩,_,h4,_⟩:=h
  omega
 ·split at h
  ·simp only [isTm,Bool.and_eq_true,decide_eq_true_eq,beq_iff_eq] at h
   obtain ⟨⟨_,h1⟩,h2,_,h4,_⟩:=h
   omega
  ·split at h
   ·simp only [Bool.and_eq_true,decide_eq_true_eq,beq_iff_eq] at h
    obtain ⟨h1,h2,_,⟨_,h4⟩,_⟩:=h
    omega
   ·cases h
def catV:List Int→Nat→ByteArray→ByteArray
 | [],_,acc=>acc
 | q :: m,i,acc=>catV m (i+1) (if q=0 then acc else acc ++ (⟨#[88,89,90]⟩:ByteArray).extract ((i:Nat):Int).toNat ((i+1:Nat):Int).toNat)
def varsC (a:Int) (b c:ByteArray) (d:Int) (e:ByteArray) (l:List S54) (m:List Int) (n:Int):ByteArray :=
 if valC a b c d e l m n=true then varsB (catV m 0 (b ++ c)) else (⟨#[]⟩:ByteArray)
theorem spec_VarsOfConstraint_ev (hb:b.size≤9223372036854775807) (hc:c.size≤9223372036854775807) (hr:Sm ⟨d,e,l⟩) (hm:m.length≤1048576):Evt (fun k=>spec_VarsOfConstraint.f k a b c d e l m n) (varsC a b c d e l m n):=by
 simp only [spec_VarsOfConstraint.f]
 unfold varsC
 refine Evt.bind (spec_IsValidConstraint_ev hb hc hr hm) ?_
 cases hv:valC a b c d e l m n with
 | false=>exact Evt.neg (by decide) (Evt.ret _)
 | true =>
  obtain ⟨g1,g2,g3⟩:=valC_bounds hv
  refine Evt.pos rfl (Evt.pos (by omega) ?_)
  have hh:∀ j i:Nat,i+j=m.length→∀ acc:ByteArray,acc.size≤100+i→Evt (fun k=>spec_VarsOfConstraint.l0 k acc (i:Int) a b c d e l m n) (varsB (catV (m.drop i) i acc)):=by
   intro j
   induction j with
   | zero =>
    intro i hi acc ha
    refine Evt.step ?_
    simp only [spec_VarsOfConstraint.l0]
    rw [List.drop_of_length_le (by omega)]
    exact Evt.neg (by omega) (Evt.bind (spec_VarsOf_ev acc (by omega)) (Evt.ret _))
   | succ j ih =>
    intro i hi acc ha
    have hi':i < m.length:=by omega
    have hx:=ext_size (i:Int) (by omega) (by omega)
    refine Evt.step ?_
    simp only [spec_VarsOfConstraint.l0]
    rw [List.drop_eq_getElem_cons hi',rdI_at m i hi',w64s (by omega)]
    refine Evt.pos (by omega) (Evt.pos (by omega) ?_)
    simp only [catV]
    by_cases hq:m[i]=0
    ·rw [if_pos hq]
     exact Evt.pos hq (ih (i+1) (by omega) acc (by omega))
    ·rw [if_neg hq]
     have hs:((⟨#[88,89,90]⟩:ByteArray).extract ((i:Nat):Int).toNat ((i+1:Nat):Int).toNat).size=1:=by
      rw [show ((i+1:Nat):Int)=(i:Int)+1 by omega,hx]
     refine Evt.neg hq (Evt.pos (by omega) (Evt.pos (by omega) (Evt.pos (by rw [hs];omega) ?_)))
     exact ih (i+1) (by omega) _ (by rw [ByteArray.size_append,hs];omega)
  have:=hh m.length 0 (by omega) (b ++ c) za87
  rw [if_pos rfl]
  simpa using this
theorem impl_VarsOfConstraint_ev (hm:m.length≤1048576):Evt (fun k=>impl_VarsOfConstraint.f k a b c d e l m n) (varsC a b c d e l m n):=by
 simp only [impl_VarsOfConstraint.f]
 unfold varsC
 refine Evt.bind (impl_IsValidConstraint_ev hm) ?_
 cases hv:valC a b c d e l m n with
 | false=>exact Evt.neg (by decide) (Evt.ret _)
 | true =>
  obtain ⟨g1,g2,g3⟩:=valC_bounds hv
  refine Evt.pos rfl (Evt.pos (by omega) ?_)
  have hh:∀ j i:Nat,i+j=m.length→∀ acc:ByteArray,acc.size≤100+i→Evt (fun k=>impl_VarsOfConstraint.l0 k acc m (m.length:Int) (i:Int)) (varsB (catV (m.drop i) i acc)):=by
   intro j
   induction j with
   | zero =>
    intro i hi acc ha
    refine Evt.step ?_
    simp only [impl_VarsOfConstraint.l0]
    rw [List.drop_of_length_le (by omega)]
    exact Evt.neg (by omega) (Evt.bind (impl_VarsOf_ev acc) (Evt.ret _))
   | succ j ih =>
    intro i hi acc ha
    have hi':i < m.length:=by omega
    have hx:=ext_size (i:Int) (by omega) (by omega)
    refine Evt.step ?_
    simp only [impl_VarsOfConstraint.l0]
    rw [List.drop_eq_getElem_cons hi',rdI_at m i hi',w64s (by omega)]
    refine Evt.pos (by omega) (Evt.pos (by omega) (Evt.pos (by omega) ?_))
    simp only [catV]
    by_cases hq:m[i]=0
    ·rw [if_pos hq]
     exact Evt.pos hq (ih (i+1) (by omega) acc (by omega))
    ·rw [if_neg hq]
     have hs:((⟨#[88,89,90]⟩:ByteArray).extract ((i:Nat):Int).toNat ((i+1:Nat):Int).toNat).size=1:=by
      rw [show ((i+1:Nat):Int)=(i:Int)+1 by omega,hx]
     refine Evt.neg hq (Evt.pos (by omega) (Evt.pos (by omega) (Evt.pos (by rw [hs];omega) ?_)))
     exact ih (i+1) (by omega) _ (by rw [ByteArray.size_append,hs];omega)
  have:=hh m.length 0 (by omega) (b ++ c) za87
  rw [if_pos rfl]
  simpa using this
end
theorem vr_size (p:Int→Bool) (n:Nat):∀ (i:Int) (acc:ByteArray),0≤i→i+n=3→(vr p n i acc).size≤acc.size+n:=by
 induction n with
 | zero=>intro i acc _ _;exact Nat.le_refl _
 | succ n ih =>
  intro i acc h0 hi
  have hx:=ext_size i h0 (by omega)
  unfold vr
  split
  ·have:=ih (i+1) (acc ++ ((⟨#[88,89,90]⟩:ByteArray).extract (i:Int).toNat ((i+1):Int).toNat)) (by omega) (by omega)
   rw [ByteArray.size_append,hx] at this
   omega
  ·have:=ih (i+1) acc (by omega) (by omega)
   omega
theorem varsB_size (s:ByteArray):(varsB s).size≤3:=by
 have:=vr_size (fun c=>decide (c ∈ bytesOf s)) 3 0 (⟨#[]⟩:ByteArray) (by omega) (by omega)
 have e:(⟨#[]⟩:ByteArray).size=0:=rfl
 unfold varsB
 omega
def valK (y:S56):Bool:=valC y.f0 y.f1 y.f2 y.f3.f0 y.f3.f1 y.f3.f2 y.f4 y.f5
def varsK (y:S56):ByteArray:=varsC y.f0 y.f1 y.f2 y.f3.f0 y.f3.f1 y.f3.f2 y.f4 y.f5
def valP (ys:List S56):Bool:=ys.all valK && decide ((ys.length:Int)≤6)
theorem varsK_size (y:S56):(varsK y).size≤3:=by
 unfold varsK varsC
 split
 ·exact varsB_size _
 ·exact Nat.zero_le _
theorem spec_IsValidProblem_ev (ys:List S56) (hl:ys.length≤1048576) (h:∀ y ∈ ys,CsSm y):Evt (fun k=>spec_IsValidProblem.f k ys) (valP ys):=by
 have hh:=Evt.up (fun k i=>spec_IsValidProblem.l0 k i ys) ys.length (fun i=>(ys.drop i).all valK && decide ((ys.length:Int)≤6)) ?_ ?_
 ·simpa [spec_IsValidProblem.f,valP] using hh
 ·refine Evt.step ?_
  simp only [spec_IsValidProblem.l0]
  rw [List.drop_of_length_le (by omega)]
  exact Evt.neg (by omega) ((Evt.ret _).cast (by simp))
 ·intro i hi hn
  obtain ⟨g1,g2,g3,g4⟩:=h _ (List.getElem_mem hi)
  have hv:=spec_IsValidConstraint_ev (a:=ys[i].f0) (d:=ys[i].f3.f0) (n:=ys[i].f5) (Nat.le_trans g3 (by decide)) (Nat.le_trans g4 (by decide)) (by rw [rx_eta];exact g1) g2
  refine Evt.step ?_
  simp only [spec_IsValidProblem.l0]
  rw [csI_at ys i hi,w64s (by omega),List.drop_eq_getElem_cons hi,List.all_cons]
  refine Evt.pos (by omega) (Evt.pos (by omega) (Evt.bind hv ?_))
  change Evt (fun k=>if valK ys[i]=true then _ else _) _
  cases valK ys[i] with
  | true=>exact Evt.pos rfl (hn.cast (by simp))
  | false=>exact Evt.neg (by decide) ((Evt.ret _).cast (by simp))
theorem anyO_cons (f:S56→Option Bool) (c:S56) (l:List S56) (p q:Bool) (h:f c=some p) (h':anyO f l=some q):anyO f (c :: l)=some (p || q):=by
 unfold anyO at h' ⊢
 split at h'
 ·next ha =>
  rw [if_pos (by rw [List.all_cons,h,ha];rfl),List.any_cons,h,zi h']
  cases p <;> rfl
 ·cases h'
theorem anyO_ev {f:Nat→S56→Option Bool} {p:S56→Bool} : ∀ (l:List S56),(∀ c ∈ l,Evt (fun k=>f k c) (p c))→Evt (fun k=>anyO (f k) l) (l.any p):=by
 intro l
 induction l with
 | nil=>intro _;exact Evt.const rfl
 | cons c l ih =>
  intro h
  obtain ⟨K1,h1⟩:=h c (by simp)
  obtain ⟨K2,h2⟩:=ih fun c hc=>h c (by simp [hc])
  exact ⟨max K1 K2,fun k hk=>anyO_cons (f k) c l _ _ (h1 k (by omega)) (h2 k (by omega))⟩
theorem impl_IsValidProblem_ev (ys:List S56) (hl:ys.length≤1048576) (h:∀ y ∈ ys,CsSm y):Evt (fun k=>impl_IsValidProblem.f k ys) (valP ys):=by
 unfold impl_IsValidProblem.f valP
 by_cases h6:ys.length≤6
 ·refine Evt.pos h6 (Evt.bind (anyO_ev (p:=fun y => !valK y) ys fun y hy=>?_) ((Evt.ret _).cast ?_))
  ·obtain ⟨g1,g2,g3,g4⟩:=h y hy
   have hv:Evt (fun k=>impl_IsValidConstraint.f k y.f0 y.f1 y.f2 y.f3.f0 y.f3.f1 y.f3.f2 y.f4 y.f5) (valK y):=impl_IsValidConstraint_ev g2
   unfold notValid
   exact Evt.bind hv (Evt.ret _)
  ·rw [show decide ((ys.length:Int)≤6)=true from decide_eq_true (by omega),Bool.and_true]
   clear h hl h6
   induction ys with
   | nil=>rfl
   | cons y ys ih=>rw [List.any_cons,List.all_cons,Bool.not_or,ih,Bool.not_not]
 ·exact Evt.neg h6 ((Evt.ret _).cast (by simp;omega))
def catP:List S56→ByteArray→ByteArray
 | [],acc=>acc
 | y :: ys,acc=>catP ys (acc ++ varsK y)
def varsP (ys:List S56):ByteArray:=if valP ys=true then varsB (catP ys (⟨#[]⟩:ByteArray)) else (⟨#[]⟩:ByteArray)
theorem varsP_size (ys:List S56):(varsP ys).size≤3:=by
 unfold varsP
 split
 ·exact varsB_size _
 ·exact Nat.zero_le _
theorem varsB_nil:varsB (⟨#[]⟩:ByteArray)=(⟨#[]⟩:ByteArray):=by decide
theorem valP_len {ys:List S56} (h:valP ys=true):ys.length≤6:=by
 unfold valP at h
 simp at h
 omega
theorem impl_VarsOfProblem_ev (ys:List S56) (hl:ys.length≤1048576) (h:∀ y ∈ ys,CsSm y):Evt (fun k=>impl_VarsOfProblem.f k ys) (varsP ys):=by
 simp only [impl_VarsOfProblem.f]
 unfold varsP
 refine Evt.bind (impl_IsValidProblem_ev ys hl h) ?_
 cases hv:valP ys with
 | false=>exact Evt.neg (by decide) (Evt.ret _)
 | true =>
  have h6:=valP_len hv
  refine Evt.pos rfl ?_
  rw [if_pos rfl]
  have hh:∀ d i:Nat,i+d=ys.length→∀ acc:ByteArray,acc.size≤3 * i→Evt (fun k=>impl_VarsOfProblem.l0 k acc ys (ys.length:Int) (i:Int)) (varsB (catP (ys.drop i) acc)):=by
   intro d
   induction d with
   | zero =>
    intro i hi acc ha
    refine Evt.step ?_
    simp only [impl_VarsOfProblem.l0]
    rw [List.drop_of_length_le (by omega)]
    exact Evt.neg (by omega) (Evt.bind (impl_VarsOf_ev acc) (Evt.ret _))
   | succ d ih =>
    intro i hi acc ha
    have hi':i < ys.length:=by omega
    obtain ⟨g1,g2,g3,g4⟩:=h _ (List.getElem_mem hi')
    have hv:Evt (fun k=>impl_VarsOfConstraint.f k ys[i].f0 ys[i].f1 ys[i].f2 ys[i].f3.f0 ys[i].f3.f1 ys[i].f3.f2 ys[i].f4 ys[i].f5) (varsK ys[i]):=impl_VarsOfConstraint_ev g2
    have hs:=varsK_size ys[i]
    refine Evt.step ?_
    simp only [impl_VarsOfProblem.l0]
    rw [csI_at ys i hi',w64s (by omega),List.drop_eq_getElem_cons hi']
    exact Evt.pos (by omega) (Evt.pos (by omega) (Evt.pos (by omega) (Evt.bind hv (Evt.pos (by omega) (ih (i+1) (by omega) _ za87)))))
  exact hh ys.length 0 (by omega) _ (Nat.zero_le _)
theorem spec_VarsOfProblem_ev (ys:List S56) (hl:ys.length≤1048576) (h:∀ y ∈ ys,CsSm y):Evt (fun k=>spec_VarsOfProblem.f k ys) (varsP ys):=by
 simp only [spec_VarsOfProblem.f]
 unfold varsP
 have hp:=spec_IsValidProblem_ev ys hl h
 cases hv:valP ys with
 | false =>
  refine Evt.step ?_
  simp only [spec_VarsOfProblem.l0]
  have hn:0 < ys.length:=by
   cases ys with
   | nil=>simp [valP] at hv
   | cons y ys=>simp
  rw [hv] at hp
  exact Evt.pos (by omega) (Evt.bind hp (Evt.neg (by decide) (Evt.bind (spec_VarsOf_ev _ (by decide)) ((Evt.ret _).cast varsB_nil))))
 | true =>
  have h6:=valP_len hv
  rw [hv] at hp
  rw [if_pos rfl]
  have hh:∀ d i:Nat,i+d=ys.length→∀ acc:ByteArray,acc.size≤3 * i→Evt (fun k=>spec_VarsOfProblem.l0 k acc (i:Int) ys) (varsB (catP (ys.drop i) acc)):=by
   intro d
   induction d with
   | zero =>
    intro i hi acc ha
    refine Evt.step ?_
    simp only [spec_VarsOfProblem.l0]
    rw [List.drop_of_length_le (by omega)]
    exact Evt.neg (by omega) (Evt.bind (spec_VarsOf_ev acc (by omega)) (Evt.ret _))
   | succ d ih =>
    intro i hi acc ha
    have hi':i < ys.length:=by omega
    obtain ⟨g1,g2,g3,g4⟩:=h _ (List.getElem_mem hi')
    have hv:Evt (fun k=>spec_VarsOfConstraint.f k ys[i].f0 ys[i].f1 ys[i].f2 ys[i].f3.f0 ys[i].f3.f1 ys[i].f3.f2 ys[i].f4 ys[i].f5) (varsK ys[i]):=spec_VarsOfConstraint_ev (Nat.le_trans g3 (by decide)) (Nat.le_trans g4 (by decide)) (by rw [rx_eta];exact g1) g2
    have hs:=varsK_size ys[i]
    refine Evt.step ?_
    simp only [spec_VarsOfProblem.l0]
    rw [csI_at ys i hi',w64s (by omega),List.drop_eq_getElem_cons hi']
    exact Evt.pos (by omega) (Evt.bind hp (Evt.pos rfl (Evt.pos (by omega) (Evt.bind hv (Evt.pos (by omega) (ih (i+1) (by omega) _ za87))))))
  exact hh ys.length 0 (by omega) _ (Nat.zero_le _)
def boundP (ys:List S56):Int:=if valP ys=true then (if (varsP ys).size≤1 then 5 else if (varsP ys).size=2 then 3 else 2) else -1
theorem impl_BoundOf_ev (ys:List S56) (hl:ys.length≤1048576) (h:∀ y ∈ ys,CsSm y):Evt (fun k=>impl_BoundOf.f k ys) (boundP ys):=by
 simp only [impl_BoundOf.f]
 unfold boundP
 refine Evt.bind (impl_IsValidProblem_ev ys hl h) ?_
 cases hv:valP ys with
 | false=>exact Evt.neg (by decide) (Evt.ret _)
 | true =>
  have h3:=varsP_size ys
  rw [if_pos rfl]
  refine Evt.pos rfl (Evt.bindc rfl (Evt.bind (impl_VarsOfProblem_ev ys hl h) (Evt.pos (by omega) (Evt.pos (by simp;omega) ((Evt.ret _).cast ?_)))))
  generalize (varsP ys).size=s at *
  match s,h3 with
  | 0,_=>rfl
  | 1,_=>rfl
  | 2,_=>rfl
  | 3,_=>rfl
theorem spec_BoundOf_ev (ys:List S56) (hl:ys.length≤1048576) (h:∀ y ∈ ys,CsSm y):Evt (fun k=>spec_BoundOf.f k ys) (boundP ys):=by
 simp only [spec_BoundOf.f]
 unfold boundP
 refine Evt.bind (spec_IsValidProblem_ev ys hl h) ?_
 cases hv:valP ys with
 | false=>exact Evt.neg (by decide) (Evt.ret _)
 | true =>
  have h3:=varsP_size ys
  rw [if_pos rfl]
  refine Evt.pos rfl (Evt.bind (spec_VarsOfProblem_ev ys hl h) ?_)
  have hj:∀ (s:Nat) (x:Bool),s≤3→(x=true ↔ s≤1)→Evt (fun k=>spec_BoundOf.j0 k (s:Int) x) (if s≤1 then 5 else if s=2 then 3 else 2):=by
   intro s x hs hx
   refine Evt.step ?_
   simp only [spec_BoundOf.j0]
   by_cases h1:s≤1
   ·rw [if_pos h1];exact Evt.pos (hx.2 h1) (Evt.ret _)
   ·rw [if_neg h1]
    refine Evt.neg (fun h=>h1 (hx.1 h)) ?_
    by_cases h2:s=2
    ·rw [if_pos h2];exact Evt.pos (by omega) (Evt.ret _)
    ·rw [if_neg h2];exact Evt.neg (by omega) (Evt.ret _)
  generalize (varsP ys).size=s at *
  by_cases h0:s=0
  ·subst h0;exact Evt.pos rfl (hj 0 _ (by omega) (by simp))
  ·refine Evt.neg (by omega) (hj s _ h3 ?_)
   simp;omega
theorem nilB (s:ByteArray):s.toList=([]:List UInt8) ↔ s=(⟨#[]⟩:ByteArray):=by
 rw [toList_nil_iff]
 constructor
 ·intro h
  cases s with
  | mk d=>exact congrArg ByteArray.mk (Array.eq_empty_of_size_eq_zero h)
 ·rintro rfl
  rfl
def clr (vs x y z:ByteArray):ByteArray × ByteArray × ByteArray:=(if 88 ∈ bytesOf vs then x else (⟨#[]⟩:ByteArray),if 89 ∈ bytesOf vs then y else (⟨#[]⟩:ByteArray),if 90 ∈ bytesOf vs then z else (⟨#[]⟩:ByteArray))
theorem impl_cleared_ev (vs x y z:ByteArray):Evt (fun k=>impl_cleared.f k x y z vs) (clr vs x y z):=by
 simp only [impl_cleared.f]
 have h3:∀ x y z,Evt (fun k=>impl_cleared.l0 k vs 3 x y z) (x,y,z):=fun x y z=>by
  refine Evt.step ?_
  simp only [impl_cleared.l0]
  exact Evt.neg (by decide) (Evt.ret _)
 have h2:∀ x y z,Evt (fun k=>impl_cleared.l0 k vs 2 x y z) (x,y,if 90 ∈ bytesOf vs then z else (⟨#[]⟩:ByteArray)):=fun x y z=>by
  refine Evt.step ?_
  simp only [impl_cleared.l0,bt_XYZ2,w64_3]
  refine Evt.pos (by decide) (Evt.pos (by decide) (Evt.bindc rfl ?_))
  have e:=ib_nonneg vs (c:=90) (by decide) (by decide)
  by_cases hc:(90:Int) ∈ bytesOf vs
  ·rw [if_pos hc]
   exact Evt.neg (by have:=e.2 hc;omega) (h3 _ _ _)
  ·rw [if_neg hc]
   exact Evt.pos (by have:=mt e.1 hc;omega) (Evt.bindc rfl (h3 _ _ _))
 have h1:∀ x y z,Evt (fun k=>impl_cleared.l0 k vs 1 x y z) (x,if 89 ∈ bytesOf vs then y else (⟨#[]⟩:ByteArray),if 90 ∈ bytesOf vs then z else (⟨#[]⟩:ByteArray)):=fun x y z=>by
  refine Evt.step ?_
  simp only [impl_cleared.l0,bt_XYZ1,w64_2]
  refine Evt.pos (by decide) (Evt.pos (by decide) (Evt.bindc rfl ?_))
  have e:=ib_nonneg vs (c:=89) (by decide) (by decide)
  by_cases hc:(89:Int) ∈ bytesOf vs
  ·rw [if_pos hc]
   exact Evt.neg (by have:=e.2 hc;omega) (h2 _ _ _)
  ·rw [if_neg hc]
   exact Evt.pos (by have:=mt e.1 hc;omega) (Evt.bindc rfl (h2 _ _ _))
 refine Evt.step ?_
 simp only [impl_cleared.l0,bt_XYZ0,w64_1]
 refine Evt.pos (by decide) (Evt.pos (by decide) (Evt.bindc rfl ?_))
 have e:=ib_nonneg vs (c:=88) (by decide) (by decide)
 unfold clr
 by_cases hc:(88:Int) ∈ bytesOf vs
 ·rw [if_pos hc]
  exact Evt.neg (by have:=e.2 hc;omega) (h1 _ _ _)
 ·rw [if_neg hc]
  exact Evt.pos (by have:=mt e.1 hc;omega) (Evt.bindc rfl (h1 _ _ _))
theorem spec_l0_ev (vs:ByteArray) (hvs:vs.size≤9223372036854775807) (ys:List S56) (x y z:ByteArray) (r:Bool) (h:Evt (fun k=>spec_IsModel.l1 k 0 ys x y z) r):Evt (fun k=>spec_IsModel.l0 k vs 0 ys x y z) (decide (clr vs x y z=(x,y,z)) && r):=by
 have cnt:∀ c:Int,((cntB (bytesOf vs) c:Nat):Int)=0 ↔ c ∉ bytesOf vs:=fun c=>by
  rw [← cntB_pos];omega
 have h3:Evt (fun k=>spec_IsModel.l0 k vs 3 ys x y z) r:=by
  refine Evt.step ?_
  simp only [spec_IsModel.l0]
  exact Evt.neg (by decide) h
 have h2:Evt (fun k=>spec_IsModel.l0 k vs 2 ys x y z) (decide ((if 90 ∈ bytesOf vs then z else (⟨#[]⟩:ByteArray))=z) && r):=by
  refine Evt.step ?_
  simp only [spec_IsModel.l0,bt_XYZ2,w64_3]
  refine Evt.pos (by decide) (Evt.pos (by decide) (Evt.bind (spec_CountByte_ev vs 90 hvs) ?_))
  by_cases hc:(90:Int) ∈ bytesOf vs
  ·rw [if_pos hc]
   exact Evt.neg (by rw [cnt];exact not_not_intro hc) (h3.cast (by simp))
  ·rw [if_neg hc]
   refine Evt.pos (by rw [cnt];exact hc) (Evt.bindc rfl ?_)
   by_cases hz:z=(⟨#[]⟩:ByteArray)
   ·exact Evt.pos (by simpa [nilB] using hz) (h3.cast (by simp [hz]))
   ·exact Evt.neg (by simpa [nilB] using hz) ((Evt.ret _).cast (by simp [Ne.symm hz]))
 have h1:Evt (fun k=>spec_IsModel.l0 k vs 1 ys x y z) (decide ((if 89 ∈ bytesOf vs then y else (⟨#[]⟩:ByteArray))=y) && (decide ((if 90 ∈ bytesOf vs then z else (⟨#[]⟩:ByteArray))=z) && r)):=by
  refine Evt.step ?_
  simp only [spec_IsModel.l0,bt_XYZ1,w64_2]
  refine Evt.pos (by decide) (Evt.pos (by decide) (Evt.bind (spec_CountByte_ev vs 89 hvs) ?_))
  by_cases hc:(89:Int) ∈ bytesOf vs
  ·rw [if_pos hc]
   exact Evt.neg (by rw [cnt];exact not_not_intro hc) (h2.cast (by simp))
  ·rw [if_neg hc]
   refine Evt.pos (by rw [cnt];exact hc) (Evt.bindc rfl ?_)
   by_cases hz:y=(⟨#[]⟩:ByteArray)
   ·exact Evt.pos (by simpa [nilB] using hz) (h2.cast (by simp [hz]))
   ·exact Evt.neg (by simpa [nilB] using hz) ((Evt.ret _).cast (by simp [Ne.symm hz]))
 have e:decide (clr vs x y z=(x,y,z))=(decide ((if 88 ∈ bytesOf vs then x else (⟨#[]⟩:ByteArray))=x) && (decide ((if 89 ∈ bytesOf vs then y else (⟨#[]⟩:ByteArray))=y) && decide ((if 90 ∈ bytesOf vs then z else (⟨#[]⟩:ByteArray))=z))):=by
  unfold clr
  rw [Bool.eq_iff_iff]
  simp only [Bool.and_eq_true,decide_eq_true_eq,Prod.mk.injEq]
 rw [e,Bool.and_assoc,Bool.and_assoc]
 refine Evt.step ?_
 simp only [spec_IsModel.l0,bt_XYZ0,w64_1]
 refine Evt.pos (by decide) (Evt.pos (by decide) (Evt.bind (spec_CountByte_ev vs 88 hvs) ?_))
 by_cases hc:(88:Int) ∈ bytesOf vs
 ·rw [if_pos hc]
  exact Evt.neg (by rw [cnt];exact not_not_intro hc) (h1.cast (by simp))
 ·rw [if_neg hc]
  refine Evt.pos (by rw [cnt];exact hc) (Evt.bindc rfl ?_)
  by_cases hz:x=(⟨#[]⟩:ByteArray)
  ·exact Evt.pos (by simpa [nilB] using hz) (h1.cast (by simp [hz]))
  ·exact Evt.neg (by simpa [nilB] using hz) ((Evt.ret _).cast (by simp [Ne.symm hz]))
def hldB (x y z:ByteArray) (c:S56):Bool:=impl_holds.f c.f0 c.f1 c.f2 c.f3.f0 c.f3.f1 c.f3.f2 c.f4 c.f5 x y z == some true
theorem Evt.same {α:Type} {g:Nat→Option α} {a b:α} (h:Evt g a) (h':Evt g b):a=b:=by
 obtain ⟨K,h⟩:=h
 obtain ⟨L,h'⟩:=h'
 exact zi ((h (max K L) (by omega)).symm.trans (h' (max K L) (by omega)))
theorem holds_use {x y z:ByteArray} (hw:isVs x y z=true) (c:S56) (hv:valK c=true):impl_holds.f c.f0 c.f1 c.f2 c.f3.f0 c.f3.f1 c.f3.f2 c.f4 c.f5 x y z=some (hldB x y z c):=by
 obtain ⟨r,_,h2⟩:=holds_ev (a:=c.f0) (b:=c.f1) (c:=c.f2) (d:=c.f3.f0) (e:=c.f3.f1) (l:=c.f3.f2) (m:=c.f4) (n:=c.f5) hv hw
 unfold hldB
 rw [h2]
 cases r <;> rfl
theorem specHoldsFor_ev {x y z:ByteArray} (hx:x.size≤9223372036854775807) (hy:y.size≤9223372036854775807) (hz:z.size≤9223372036854775807) (c:S56) (h:CsSm c):∃ r,Evt (fun k=>spec_HoldsFor.f k c.f0 c.f1 c.f2 c.f3.f0 c.f3.f1 c.f3.f2 c.f4 c.f5 x y z) r∧(valK c=true→isVs x y z=true→r=hldB x y z c):=by
 obtain ⟨g1,g2,g3,g4⟩:=h
 have g3':c.f1.size≤9223372036854775807:=Nat.le_trans g3 (by decide)
 have g4':c.f2.size≤9223372036854775807:=Nat.le_trans g4 (by decide)
 have hs:Sm ⟨c.f3.f0,c.f3.f1,c.f3.f2⟩:=by rw [rx_eta];exact g1
 have s1:=spec_IsValidConstraint_ev (a:=c.f0) (n:=c.f5) g3' g4' hs g2
 change Evt _ (valK c) at s1
 have s2:=spec_IsValues_ev x y z hx hy hz
 simp only [spec_HoldsFor.f]
 by_cases hv:valK c=true
 ·rw [hv] at s1
  by_cases hw:isVs x y z=true
  ·rw [hw] at s2
   obtain ⟨r,h1,h2⟩:=holds_ev (a:=c.f0) (b:=c.f1) (c:=c.f2) (d:=c.f3.f0) (e:=c.f3.f1) (l:=c.f3.f2) (m:=c.f4) (n:=c.f5) hv hw
   refine ⟨r,Evt.bind s1 (Evt.pos rfl (Evt.bind s2 (Evt.pos rfl (last_ev h1)))),fun _ _=>?_⟩
   have:=holds_use hw c hv
   rw [h2] at this
   exact zi this
  ·rw [Bool.eq_false_iff.2 hw] at s2
   exact ⟨false,Evt.bind s1 (Evt.pos rfl (Evt.bind s2 (Evt.neg (by decide) (Evt.ret _)))),fun _ h=>absurd h hw⟩
 ·rw [Bool.eq_false_iff.2 hv] at s1
  exact ⟨false,Evt.bind s1 (Evt.neg (by decide) (Evt.ret _)),fun h=>absurd h hv⟩
theorem valP_all {ys:List S56} (h:valP ys=true):∀ c ∈ ys,valK c=true:=by
 unfold valP at h
 rw [Bool.and_eq_true,List.all_eq_true] at h
 exact h.1
theorem spec_l1_ev {x y z:ByteArray} (hx:x.size≤9223372036854775807) (hy:y.size≤9223372036854775807) (hz:z.size≤9223372036854775807) (ys:List S56) (hl:ys.length≤1048576) (h:∀ y ∈ ys,CsSm y) :
  ∀ d i:Nat,i+d=ys.length→∃ r,Evt (fun k=>spec_IsModel.l1 k (i:Int) ys x y z) r∧((valP ys && isVs x y z)=false→r=false)∧(valP ys=true→isVs x y z=true→r=(ys.drop i).all (hldB x y z)):=by
 intro d
 induction d with
 | zero =>
  intro i hi
  refine ⟨valP ys && isVs x y z,Evt.step ?_,id,fun h1 h2=>?_⟩
  ·simp only [spec_IsModel.l1]
   exact Evt.neg (by omega) (and_ev (spec_IsValidProblem_ev ys hl h) fun _=>last_ev (spec_IsValues_ev x y z hx hy hz))
  ·rw [List.drop_of_length_le (by omega),h1,h2]
   rfl
 | succ d ih =>
  intro i hi
  have hi':i < ys.length:=by omega
  obtain ⟨r,h1,h2,h3⟩:=ih (i+1) (by omega)
  obtain ⟨q,q1,q2⟩:=specHoldsFor_ev hx hy hz ys[i] (h _ (List.getElem_mem hi'))
  cases q with
  | true =>
   refine ⟨r,Evt.step ?_,h2,fun e1 e2=>?_⟩
   ·simp only [spec_IsModel.l1]
    rw [csI_at ys i hi',w64s (by omega)]
    exact Evt.pos (by omega) (Evt.pos (by omega) (Evt.bind q1 (Evt.pos rfl h1)))
   ·rw [List.drop_eq_getElem_cons hi',List.all_cons,← q2 (valP_all e1 _ (List.getElem_mem hi')) e2,Bool.true_and]
    exact h3 e1 e2
  | false =>
   refine ⟨false,Evt.step ?_,fun _=>rfl,fun e1 e2=>?_⟩
   ·simp only [spec_IsModel.l1]
    rw [csI_at ys i hi',w64s (by omega)]
    exact Evt.pos (by omega) (Evt.pos (by omega) (Evt.bind q1 (Evt.neg (by decide) (Evt.ret _))))
   ·rw [List.drop_eq_getElem_cons hi',List.all_cons,← q2 (valP_all e1 _ (List.getElem_mem hi')) e2,Bool.false_and]
def mdl (ys:List S56) (x y z:ByteArray):Bool:=valP ys && (isVs x y z && (decide (clr (varsP ys) x y z=(x,y,z)) && ys.all (hldB x y z)))
theorem spec_IsModel_ev {x y z:ByteArray} (hx:x.size≤9223372036854775807) (hy:y.size≤9223372036854775807) (hz:z.size≤9223372036854775807) (ys:List S56) (hl:ys.length≤1048576) (h:∀ y ∈ ys,CsSm y):Evt (fun k=>spec_IsModel.f k ys x y z) (mdl ys x y z):=by
 obtain ⟨r,h1,h2,h3⟩:=spec_l1_ev hx hy hz ys hl h ys.length 0 (by omega)
 simp only [spec_IsModel.f]
 refine Evt.bind (spec_VarsOfProblem_ev ys hl h) ((spec_l0_ev _ (Nat.le_trans (varsP_size ys) (by decide)) ys x y z r h1).cast ?_)
 unfold mdl
 cases hv:valP ys with
 | false=>rw [h2 (by rw [hv];rfl),Bool.and_false];rfl
 | true =>
  cases hw:isVs x y z with
  | false=>rw [h2 (by rw [hw,Bool.and_false]),Bool.and_false];rfl
  | true=>rw [h3 hv hw];rfl
theorem impl_IsModel_ev {x y z:ByteArray} (hx:x.size≤9223372036854775807) (hy:y.size≤9223372036854775807) (hz:z.size≤9223372036854775807) (ys:List S56) (hl:ys.length≤1048576) (h:∀ y ∈ ys,CsSm y):Evt (fun k=>impl_IsModel.f k ys x y z) (mdl ys x y z):=by
 unfold impl_IsModel.f mdl
 refine and_ev (impl_IsValidProblem_ev ys hl h) fun hv=>and_ev (impl_IsValues_ev x y z hx hy hz) fun hw=>Evt.bind (impl_VarsOfProblem_ev ys hl h) (Evt.bind (impl_cleared_ev _ x y z) ?_)
 by_cases hc:clr (varsP ys) x y z=(x,y,z)
 ·rw [decide_eq_true hc,Bool.true_and]
  refine Evt.pos hc (Evt.bind (anyO_ev (p:=fun c => !hldB x y z c) ys fun c hq=>?_) ((Evt.ret _).cast ?_))
  ·unfold notHolds
   exact Evt.bindc (holds_use hw c (valP_all hv c hq)) (Evt.ret _)
  ·clear hc hv h hl
   induction ys with
   | nil=>rfl
   | cons y ys ih=>rw [List.any_cons,List.all_cons,Bool.not_or,ih,Bool.not_not]
 ·rw [decide_eq_false hc,Bool.false_and]
  exact Evt.neg hc (Evt.ret _)
theorem Evt.of_mono {α:Type} {g:Nat→Option α} (hm:∀ k,LeO (g k) (g (k+1))) {K:Nat} {r:α} (h:g K=some r):Evt g r:=by
 refine ⟨K,fun k hk=>?_⟩
 obtain ⟨d,rfl⟩:∃ d,k=K+d:=⟨k - K,by omega⟩
 clear hk
 induction d with
 | zero=>exact h
 | succ d ih=>exact hm _ r ih
def wordsOk (n:Int):Bool:=match impl_WordsUpTo.f 3000 n,spec_WordsUpTo.f 3000 n with
 | some a,some b=>decide (a=b) && (a.all isW && (decide (a.length≤400) && decide (0 < a.length)))
 | _,_=>false
theorem words_ok:([0,1,2,3,4,5]:List Int).all wordsOk=true:=by decide +kernel
theorem words_ev {n:Int} (h0:0≤n) (h5:n≤5):∃ ws:List ByteArray,Evt (fun k=>impl_WordsUpTo.f k n) ws∧Evt (fun k=>spec_WordsUpTo.f k n) ws∧(∀ w ∈ ws,isW w=true)∧ws.length≤400∧0 < ws.length:=by
 have hn:n ∈ ([0,1,2,3,4,5]:List Int):=by
  have:n=0∨n=1∨n=2∨n=3∨n=4∨n=5:=by omega
  simpa using this
 have h:=List.all_eq_true.1 words_ok n hn
 unfold wordsOk at h
 cases ha:impl_WordsUpTo.f 3000 n with
 | none=>rw [ha] at h;simp at h
 | some a =>
  cases hb:spec_WordsUpTo.f 3000 n with
  | none=>rw [ha,hb] at h;simp at h
  | some b =>
   rw [ha,hb] at h
   simp only [Bool.and_eq_true,List.all_eq_true,decide_eq_true_eq] at h
   obtain ⟨rfl,h1,h2,h3⟩:=h
   exact ⟨a,Evt.of_mono (fun k=>impl_WordsUpTo.mono n k) ha,Evt.of_mono (fun k=>spec_WordsUpTo.mono n k) hb,h1,h2,h3⟩
def setv (c:Int) (w x y z:ByteArray):ByteArray × ByteArray × ByteArray:=if c=88 then (w,y,z) else if c=89 then (x,w,z) else if c=90 then (x,y,w) else (x,y,z)
theorem impl_WithValue_eq (x y z:ByteArray) (c:Int) (w:ByteArray):impl_WithValue.f x y z c w=some (setv c w x y z):=by
 unfold impl_WithValue.f setv
 repeat' split
 all_goals rfl
theorem spec_WithValue_eq (x y z:ByteArray) (c:Int) (w:ByteArray):spec_WithValue.f x y z c w=some (setv c w x y z):=by
 unfold spec_WithValue.f setv
 repeat' split
 all_goals rfl
def srch (ps:List S56) (ws:List ByteArray):List Int→ByteArray→ByteArray→ByteArray→List S32→List S32
 | [],x,y,z,out=>if ps.all (hldB x y z)=true then out ++ [⟨x,y,z⟩] else out
 | c :: cs,x,y,z,out=>ws.foldl (fun o w=>srch ps ws cs (setv c w x y z).1 (setv c w x y z).2.1 (setv c w x y z).2.2 o) out
theorem fold_le {α:Type} (f:List α→ByteArray→List α) (m:Nat) (hf:∀ o w,(f o w).length≤o.length+m) (ws:List ByteArray):∀ o,(ws.foldl f o).length≤o.length+ws.length * m:=by
 induction ws with
 | nil=>intro o;simp
 | cons w ws ih =>
  intro o
  have h1:=hf o w
  have h2:=ih (f o w)
  rw [List.foldl_cons,List.length_cons,Nat.succ_mul]
  omega
theorem srch_le (ps:List S56) (ws:List ByteArray):∀ (cs:List Int) (x y z:ByteArray) (out:List S32),(srch ps ws cs x y z out).length≤out.length+ws.length ^ cs.length:=by
 intro cs
 induction cs with
 | nil =>
  intro x y z out
  unfold srch
  split <;> simp
 | cons c cs ih =>
  intro x y z out
  unfold srch
  rw [List.length_cons,Nat.pow_succ,Nat.mul_comm]
  exact fold_le _ _ (fun o w=>ih _ _ _ o) ws out
theorem toList_cons {s:ByteArray} {c:Int} {cs:List Int} (h:bytesOf s=c :: cs):¬ s.toList=([]:List UInt8):=by
 rw [toList_nil_iff]
 have:=congrArg List.length h
 rw [bytesOf_length] at this
 simp at this
 omega
structure Inv (ns x y z : ByteArray) : Prop where
 v:isVs x y z=true
 c:clr ns x y z=(x,y,z)
theorem Inv.set {ns x y z:ByteArray} (h:Inv ns x y z) {c:Int} (hc:c ∈ bytesOf ns) {w:ByteArray} (hw:isW w=true):Inv ns (setv c w x y z).1 (setv c w x y z).2.1 (setv c w x y z).2.2:=by
 obtain ⟨hv,hcl⟩:=h
 unfold isVs at hv
 simp only [Bool.and_eq_true] at hv
 unfold clr at hcl
 simp only [Prod.mk.injEq] at hcl
 unfold setv
 split
 ·subst c
  exact ⟨by simp [isVs,hw,hv],by simp [clr,hc,hcl]⟩
 ·split
  ·subst c
   exact ⟨by simp [isVs,hw,hv],by simp [clr,hc,hcl]⟩
  ·split
   ·subst c
    exact ⟨by simp [isVs,hw,hv],by simp [clr,hc,hcl]⟩
   ·exact ⟨by simp [isVs,hv],by simp [clr,hcl]⟩
section
variable {ps : List S56} {ws : List ByteArray} (hl : ps.length ≤ 1048576) (hs : ∀ y ∈ ps, CsSm y) (hv : valP ps = true) (hw : ∀ w ∈ ws, isW w = true) (hwl : ws.length ≤ 400)
theorem isW_le {s:ByteArray} (h:isW s=true):s.size≤9223372036854775807:=Nat.le_trans (isW_size h) (by decide)
theorem inv_sizes {ns x y z:ByteArray} (h:Inv ns x y z):x.size≤9223372036854775807∧y.size≤9223372036854775807∧z.size≤9223372036854775807:=by
 have:=h.v
 simp only [isVs,Bool.and_eq_true] at this
 exact ⟨isW_le this.1,isW_le this.2.1,isW_le this.2.2⟩
include hl hs hv
theorem leaf_impl {x y z:ByteArray} (h:Inv (varsP ps) x y z):Evt (fun k=>impl_IsModel.f k ps x y z) (ps.all (hldB x y z)):=by
 obtain ⟨h1,h2,h3⟩:=inv_sizes h
 refine (impl_IsModel_ev h1 h2 h3 ps hl hs).cast ?_
 unfold mdl
 rw [hv,h.v,h.c,decide_eq_true rfl]
 rfl
theorem leaf_spec {x y z:ByteArray} (h:isVs x y z=true):Evt (fun k=>spec_l11Keeps.f k ps x y z) (ps.all (hldB x y z)):=by
 simp only [spec_l11Keeps.f]
 have hh:∀ d i:Nat,i+d=ps.length→Evt (fun k=>spec_l11Keeps.l0 k (i:Int) ps x y z) ((ps.drop i).all (hldB x y z)):=by
  intro d
  induction d with
  | zero =>
   intro i hi
   refine Evt.step ?_
   simp only [spec_l11Keeps.l0]
   rw [List.drop_of_length_le (by omega)]
   exact Evt.neg (by omega) (Evt.ret _)
  | succ d ih =>
   intro i hi
   have hi':i < ps.length:=by omega
   have hk:=valP_all hv _ (List.getElem_mem hi')
   obtain ⟨r,h1,h2⟩:=holds_ev (a:=ps[i].f0) (b:=ps[i].f1) (c:=ps[i].f2) (d:=ps[i].f3.f0) (e:=ps[i].f3.f1) (l:=ps[i].f3.f2) (m:=ps[i].f4) (n:=ps[i].f5) hk h
   have h3:=holds_use h ps[i] hk
   rw [h2] at h3
   obtain rfl:=zi h3
   refine Evt.step ?_
   simp only [spec_l11Keeps.l0]
   rw [csI_at ps i hi',w64s (by omega),List.drop_eq_getElem_cons hi',List.all_cons]
   refine Evt.pos (by omega) (Evt.pos (by omega) (Evt.bind h1 ?_))
   cases hldB x y z ps[i] with
   | true=>exact Evt.pos rfl (by simpa using ih (i+1) (by omega))
   | false=>exact Evt.neg (by decide) (Evt.ret _)
 exact hh ps.length 0 (by omega)
include hw hwl
theorem impl_srch:∀ (m i:Nat),i+m=(varsP ps).size→∀ (x y z:ByteArray) (out:List S32),Inv (varsP ps) x y z→out.length+ws.length ^ m≤1000000000→Evt (fun k=>mwF k ps (varsP ps) ws (i:Int) x y z out) (srch ps ws ((bytesOf (varsP ps)).drop i) x y z out):=by
 intro m
 induction m with
 | zero =>
  intro i hi x y z out hI ho
  refine Evt.step ?_
  simp only [mwF]
  rw [List.drop_of_length_le za79]
  refine Evt.pos (by omega) (Evt.bind (leaf_impl hl hs hv hI) ?_)
  unfold srch
  cases ps.all (hldB x y z) with
  | true=>exact Evt.pos rfl (Evt.pos (by simp at ho;omega) (Evt.ret _))
  | false=>exact Evt.neg (by decide) (Evt.ret _)
 | succ m ih =>
  intro i hi x y z out hI ho
  have hi':i < (bytesOf (varsP ps)).length:=by rw [bytesOf_length];omega
  refine Evt.step ?_
  simp only [mwF]
  rw [List.drop_eq_getElem_cons hi',← bt_get (varsP ps) i hi']
  have hc:bt (varsP ps) i ∈ bytesOf (varsP ps):=by rw [bt_get _ i hi'];exact List.getElem_mem hi'
  unfold srch
  refine Evt.neg (by omega) ?_
  have h3:=varsP_size ps
  have hh:∀ d j:Nat,j+d=ws.length→∀ out:List S32,out.length+d * ws.length ^ m≤1000000000→Evt (fun k=>mwL k ps (varsP ps) ws (i:Int) x y z out (j:Int)) ((ws.drop j).foldl (fun o w=>srch ps ws ((bytesOf (varsP ps)).drop (i+1)) (setv (bt (varsP ps) i) w x y z).1 (setv (bt (varsP ps) i) w x y z).2.1 (setv (bt (varsP ps) i) w x y z).2.2 o) out):=by
   intro d
   induction d with
   | zero =>
    intro j hj out ho
    refine Evt.step ?_
    simp only [mwL]
    rw [show ws.drop j = [] from List.drop_of_length_le (by omega)]
    exact Evt.neg (by omega) (Evt.ret _)
   | succ d ihd =>
    intro j hj out ho
    have hj':j < ws.length:=by omega
    refine Evt.step ?_
    simp only [mwL]
    rw [List.drop_eq_getElem_cons hj',List.foldl_cons]
    rw [Nat.succ_mul] at ho
    have e:rdOf ByteArray.empty ws (j:Int)=ws[j]:=by simp [rdOf,hj']
    rw [e,w64s (i:=i) (by omega)]
    refine Evt.pos (by omega) (Evt.pos ⟨by omega,by omega,by omega⟩ (Evt.bindc (impl_WithValue_eq _ _ _ _ _) (Evt.bind (ih (i+1) (by omega) _ _ _ out (hI.set hc (hw _ (List.getElem_mem hj'))) (by omega)) ?_)))
    have hle:=srch_le ps ws ((bytesOf (varsP ps)).drop (i+1)) (setv (bt (varsP ps) i) ws[j] x y z).1 (setv (bt (varsP ps) i) ws[j] x y z).2.1 (setv (bt (varsP ps) i) ws[j] x y z).2.2 out
    rw [List.length_drop,bytesOf_length,show (varsP ps).size - (i+1)=m by omega] at hle
    rw [w64s (i:=j) (by omega)]
    exact ihd (j+1) (by omega) _ (by omega)
  have:=hh ws.length 0 (by omega) out (by rw [Nat.pow_succ,Nat.mul_comm] at ho;exact ho)
  simpa using this
theorem spec_srch:∀ (cs:List Int) (a1:ByteArray),bytesOf a1=cs→∀ (x y z:ByteArray) (out:List S32),(∀ c ∈ cs,c ∈ bytesOf (varsP ps))→Inv (varsP ps) x y z→out.length+ws.length ^ cs.length≤1000000000→Evt (fun k=>spec_l11All.f k ps a1 ws x y z out) (srch ps ws cs x y z out):=by
 intro cs
 induction cs with
 | nil =>
  intro a1 ha x y z out _ hI ho
  have hn:a1.toList=([]:List UInt8):=by
   rw [toList_nil_iff,← bytesOf_length,ha]
   rfl
  refine Evt.step ?_
  simp only [spec_l11All.f]
  refine Evt.pos hn (Evt.bind (leaf_spec hl hs hv hI.v) ?_)
  unfold srch
  cases ps.all (hldB x y z) with
  | true=>exact Evt.pos rfl (Evt.pos (by simp at ho;omega) (Evt.ret _))
  | false=>exact Evt.neg (by decide) (Evt.ret _)
 | cons c cs ih =>
  intro a1 ha x y z out hm hI ho
  have hlen:a1.size=cs.length+1:=by rw [← bytesOf_length,ha];rfl
  have h0:0 < (bytesOf a1).length:=by rw [ha];simp
  have hb:bt a1 0=c:=by rw [show (0:Int)=((0:Nat):Int) from rfl,bt_get a1 0 h0];simp only [ha];rfl
  have ht:bytesOf (a1.extract 1 a1.size)=cs:=by rw [bytesOf_tail,ha];rfl
  refine Evt.step ?_
  simp only [spec_l11All.f]
  unfold srch
  refine Evt.neg (toList_cons ha) ?_
  have hh:∀ d j:Nat,j+d=ws.length→∀ out:List S32,out.length+d * ws.length ^ cs.length≤1000000000→Evt (fun k=>spec_l11All.l0 k a1 ws out (j:Int) ps x y z) ((ws.drop j).foldl (fun o w=>srch ps ws cs (setv c w x y z).1 (setv c w x y z).2.1 (setv c w x y z).2.2 o) out):=by
   intro d
   induction d with
   | zero =>
    intro j hj out ho
    refine Evt.step ?_
    simp only [spec_l11All.l0]
    rw [show ws.drop j = [] from List.drop_of_length_le (by omega)]
    exact Evt.neg (by omega) (Evt.ret _)
   | succ d ihd =>
    intro j hj out ho
    have hj':j < ws.length:=by omega
    refine Evt.step ?_
    simp only [spec_l11All.l0]
    rw [List.drop_eq_getElem_cons hj',List.foldl_cons]
    rw [Nat.succ_mul] at ho
    have e:rdOf ByteArray.empty ws (j:Int)=ws[j]:=by simp [rdOf,hj']
    rw [e,hb,w64s (i:=j) (by omega)]
    refine Evt.pos (by omega) (Evt.pos (by omega) (Evt.pos (by omega) (Evt.pos (by omega) (Evt.bindc (spec_WithValue_eq _ _ _ _ _) (Evt.bind (ih _ ht _ _ _ out (fun c' hc'=>hm c' (by simp [hc'])) (hI.set (hm c (by simp)) (hw _ (List.getElem_mem hj'))) (by omega)) ?_)))))
    have hle:=srch_le ps ws cs (setv c ws[j] x y z).1 (setv c ws[j] x y z).2.1 (setv c ws[j] x y z).2.2 out
    exact ihd (j+1) (by omega) _ (by omega)
  have:=hh ws.length 0 (by omega) out (by rw [List.length_cons,Nat.pow_succ,Nat.mul_comm] at ho;exact ho)
  simpa using this
end
theorem boundP_cases (ps:List S56) (hv:valP ps=true):0≤boundP ps∧boundP ps≤5:=by
 unfold boundP
 rw [if_pos hv]
 split
 ·decide
 ·split <;> decide
theorem inv0 (ns:ByteArray):Inv ns (⟨#[]⟩:ByteArray) (⟨#[]⟩:ByteArray) (⟨#[]⟩:ByteArray):=by
 refine ⟨by decide,?_⟩
 unfold clr
 simp
theorem pow_le (W m:Nat) (hW:W≤400) (hm:m≤3):W ^ m≤1000000000:=by
 have h1:W ^ m≤400 ^ m:=Nat.pow_le_pow_left hW m
 have h2:400 ^ m≤400 ^ 3:=Nat.pow_le_pow_right (by omega) hm
 have h3:400 ^ 3≤1000000000:=by decide
 omega
theorem fold_mem {α:Type} (f:List α→ByteArray→List α) (P:α→Prop) (ws:List ByteArray) (hf:∀ o,∀ w ∈ ws,∀ v ∈ f o w,v ∈ o∨P v):∀ o,∀ v ∈ ws.foldl f o,v ∈ o∨P v:=by
 induction ws with
 | nil=>intro o v hv;exact .inl hv
 | cons w ws ih =>
  intro o v hv
  rw [List.foldl_cons] at hv
  rcases ih (fun o u hu=>hf o u (List.mem_cons_of_mem _ hu)) _ v hv with h|h
  ·exact hf o w (List.mem_cons_self ..) v h
  ·exact .inr h
theorem srch_mem (ps:List S56) (ws:List ByteArray) (ns:ByteArray) (hw:∀ w ∈ ws,isW w=true):∀ (cs:List Int) (x y z:ByteArray) (out:List S32),(∀ c ∈ cs,c ∈ bytesOf ns)→Inv ns x y z→∀ v ∈ srch ps ws cs x y z out,v ∈ out∨(Inv ns v.f0 v.f1 v.f2∧ps.all (hldB v.f0 v.f1 v.f2)=true):=by
 intro cs
 induction cs with
 | nil =>
  intro x y z out _ hI v hv
  unfold srch at hv
  split at hv
  ·rcases List.mem_append.1 hv with h|h
   ·exact .inl h
   ·obtain rfl:=List.mem_singleton.1 h
    exact .inr ⟨hI,by assumption⟩
  ·exact .inl hv
 | cons c cs ih =>
  intro x y z out hc hI v hv
  unfold srch at hv
  exact fold_mem _ _ ws (fun o w hwm u hu=>ih _ _ _ o (fun d hd=>hc d (List.mem_cons_of_mem _ hd)) (hI.set (hc c (List.mem_cons_self ..)) (hw w hwm)) u hu) out v hv
def Mdl (ps:List S56) (v:S32):Prop:=mdl ps v.f0 v.f1 v.f2=true∧v.f0.size≤30∧v.f1.size≤30∧v.f2.size≤30
theorem Mdl.of {ps:List S56} (hv:valP ps=true) {v:S32} (hI:Inv (varsP ps) v.f0 v.f1 v.f2) (ha:ps.all (hldB v.f0 v.f1 v.f2)=true):Mdl ps v:=by
 have hs:=hI.v
 simp only [isVs,Bool.and_eq_true] at hs
 refine ⟨?_,isW_size hs.1,isW_size hs.2.1,isW_size hs.2.2⟩
 unfold mdl
 rw [hv,hI.v,hI.c,decide_eq_true rfl,ha]
 rfl
theorem ModelsUpTo_mem (ps:List S56) (hl:ps.length≤1048576) (hs:∀ y ∈ ps,CsSm y) (n:Int):∃ r,Evt (fun k=>impl_ModelsUpTo.f k ps n) r∧Evt (fun k=>spec_ModelsUpTo.f k ps n) r∧r.length≤1000000000∧∀ v ∈ r,Mdl ps v:=by
 have i1:=impl_IsValidProblem_ev ps hl hs
 have s1:=spec_IsValidProblem_ev ps hl hs
 simp only [spec_ModelsUpTo.f]
 unfold impl_ModelsUpTo.f
 cases hv:valP ps with
 | false =>
  rw [hv] at i1 s1
  exact ⟨[],Evt.bind i1 (Evt.neg (by decide) (Evt.ret _)),Evt.bind s1 (Evt.neg (by decide) (Evt.ret _)),by simp,by simp⟩
 | true =>
  rw [hv] at i1 s1
  obtain ⟨hb0,hb5⟩:=boundP_cases ps hv
  have s2:=spec_BoundOf_ev ps hl hs
  by_cases hn:n < 0
  ·refine ⟨[],Evt.bind i1 (Evt.pos rfl (Evt.pos hn (Evt.ret _))),Evt.bind s1 (Evt.pos rfl (Evt.bind s2 (Evt.bindc (a:=n) ?_ (Evt.bind (a:=[]) ?_ (Evt.pos rfl (Evt.ret _)))))),by simp,by simp⟩
   ·unfold spec_l1Min.f
    rw [if_pos (by omega)]
   ·simp only [spec_WordsUpTo.f]
    refine Evt.step ?_
    simp only [spec_WordsUpTo.l0]
    exact Evt.neg (by omega) (Evt.ret _)
  ·obtain ⟨ws,w1,w2,w3,w4,w5⟩:=words_ev (n:=min n (boundP ps)) (by omega) (by omega)
   have h3:=varsP_size ps
   refine ⟨srch ps ws (bytesOf (varsP ps)) (⟨#[]⟩:ByteArray) (⟨#[]⟩:ByteArray) (⟨#[]⟩:ByteArray) [],Evt.bind i1 (Evt.pos rfl (Evt.neg hn (Evt.bind (impl_VarsOfProblem_ev ps hl hs) (Evt.pos (by omega) (Evt.bind (impl_BoundOf_ev ps hl hs) (Evt.bind w1 ?_)))))),Evt.bind s1 (Evt.pos rfl (Evt.bind s2 (Evt.bindc (a:=min n (boundP ps)) ?_ (Evt.bind w2 (Evt.neg (by omega) (Evt.bind (spec_VarsOfProblem_ev ps hl hs) (Evt.bind (spec_srch hl hs hv w3 w4 _ _ rfl _ _ _ [] (fun c hc=>hc) (inv0 _) ?_) (Evt.ret _)))))))),?_,?_⟩
   ·have:=impl_srch hl hs hv w3 w4 (varsP ps).size 0 (by omega) _ _ _ [] (inv0 _) (by simpa using pow_le ws.length _ w4 h3)
    simpa using this
   ·unfold spec_l1Min.f
    by_cases h:n < boundP ps
    ·rw [if_pos h,Int.min_eq_left (by omega)]
    ·rw [if_neg h,Int.min_eq_right (by omega)]
   ·simpa [bytesOf_length] using pow_le ws.length _ w4 h3
   ·have:=srch_le ps ws (bytesOf (varsP ps)) (⟨#[]⟩:ByteArray) (⟨#[]⟩:ByteArray) (⟨#[]⟩:ByteArray) []
    rw [bytesOf_length] at this
    have:=pow_le ws.length (varsP ps).size w4 h3
    simp at *
    omega
   ·intro v hm
    rcases srch_mem ps ws (varsP ps) w3 _ _ _ _ [] (fun c hc=>hc) (inv0 _) v hm with h|⟨h,h'⟩
    ·cases h
    ·exact Mdl.of hv h h'
theorem vals_at (l:List S32) (i:Nat) (h:i < l.length):rd_T32 l (i:Int)=l[i]:=by simp [rd_T32,h]
def tl (v:S32):Int:=wrap64 (wrap64 ((v.f0.size:Int)+(v.f1.size:Int))+(v.f2.size:Int))
theorem impl_tl (v:S32):impl_TotalLength.f v.f0 v.f1 v.f2=some (tl v):=rfl
end Go.Proofs.YtcbjhfoeecfcoaaGreat.F
namespace Go.Proofs.YtcbjhfoeecfcoaaGreat.F
open Go Go.RowKit YtcbjhfoeecfcoaaGreatW.PrintWords YtcbjhfoeecfcoaaGreat.Pl YtcbjhfoeecfcoaaGreat.A YtcbjhfoeecfcoaaGreat.Ext
theorem i64wrap255 (n:Nat) (h:n≤255):IntKind.i64.wrap (n:Int)=n:=by
 unfold IntKind.wrap
 simp [IntKind.signed,IntKind.bits]
 omega
theorem and255 (a:Int):0≤Go.bits .and .i64 a 255∧Go.bits .and .i64 a 255≤255:=by
 have h:(BitVec.ofInt 64 a &&& BitVec.ofInt 64 255).toNat≤255:=by
  rw [BitVec.toNat_and]
  exact Nat.le_trans Nat.and_le_right (by decide)
 have e:Go.bits .and .i64 a 255=IntKind.i64.wrap ((BitVec.ofInt 64 a &&& BitVec.ofInt 64 255).toNat:Int):=rfl
 rw [e,i64wrap255 _ h]
 omega
def Cu (b:List Int) (i:Int):Prop:=b.length≤1048576∧0≤i∧i≤b.length
theorem l1Byte_ok {b:List Int} {i:Int} (h:Int) (hc:Cu b i):∃ x i' h',spec_l1Byte.f b i h=some (x,i',h')∧0≤x∧x≤255∧Cu b i':=by
 obtain ⟨h0,h1,h2⟩:=hc
 unfold spec_l1Byte.f
 by_cases hl:i < (b.length:Int)
 ·rw [if_pos hl,if_pos h1]
  refine ⟨_,_,_,rfl,(and255 _).1,(and255 _).2,h0,?_⟩
  rw [w64 (by omega) (by omega)]
  omega
 ·rw [if_neg hl]
  exact ⟨_,_,_,rfl,(and255 _).1,(and255 _).2,h0,h1,h2⟩
theorem l1Below_ok {b:List Int} {i:Int} (h n:Int) (hc:Cu b i) (hn:1≤n) (hn':n≤256):∃ x i' h',spec_l1Below.f b i h n=some (x,i',h')∧0≤x∧x < n∧Cu b i':=by
 obtain ⟨x,i',h',e,h0,h1,hc'⟩:=l1Byte_ok h hc
 unfold spec_l1Below.f
 rw [if_neg (by omega),if_pos hn',e]
 simp only [Option.bind_some]
 rw [if_neg (by omega)]
 exact ⟨_,_,_,rfl,Int.tmod_nonneg _ h0,Int.tmod_lt_of_pos _ (by omega),hc'⟩
theorem l1Once_ok {b:List Int} {i:Int} (h n:Int) (hc:Cu b i) (hn:1≤n) (hn':n≤256):∃ x i' h',spec_l1Once.f b i h n=some (x,i',h')∧Cu b i':=by
 obtain ⟨x,i',h',e,_,_,hc'⟩:=l1Below_ok h n hc hn hn'
 unfold spec_l1Once.f
 rw [e]
 exact ⟨_,_,_,rfl,hc'⟩
theorem l1Pick_ok {b:List Int} {i:Int} (h:Int) (l:List ByteArray) (hc:Cu b i) (hn:1≤l.length) (hn':l.length≤256):∃ s i' h',spec_l1Pick.f b i h l=some (s,i',h')∧s ∈ l∧Cu b i':=by
 obtain ⟨x,i',h',e,h0,h1,hc'⟩:=l1Below_ok h (l.length:Int) hc (by omega) (by omega)
 unfold spec_l1Pick.f
 rw [e]
 simp only [Option.bind_some]
 rw [if_pos h0,if_pos h1]
 refine ⟨_,_,_,rfl,?_,hc'⟩
 have hx:x.toNat < l.length:=by omega
 unfold rdOf
 rw [List.getD_eq_getElem?_getD,List.getElem?_eq_getElem hx]
 exact List.getElem_mem hx
theorem l1New_ok (l:List Int) (hl:l.length≤1048576):∃ h,Evt (fun k=>spec_l1New.f k l) (l,0,h):=by
 have hh:∀ d i:Nat,i+d=l.length→∀ h:Int,∃ h',Evt (fun k=>spec_l1New.l0 k l h (i:Int)) (l,0,h'):=by
  intro d
  induction d with
  | zero =>
   intro i hi h
   refine ⟨h,Evt.step ?_⟩
   simp only [spec_l1New.l0]
   exact Evt.neg (by omega) (Evt.ret _)
  | succ d ih =>
   intro i hi h
   by_cases hm:(i:Int) < 4000
   ·obtain ⟨h',hn⟩:=ih (i+1) (by omega) (Go.bits .and .i64 (wrap64 ((wrap64 ((wrap64 (h * 131))+(wrap64 (rd l (i:Int)))))+7)) 1073741823)
    refine ⟨h',Evt.step ?_⟩
    simp only [spec_l1New.l0]
    rw [w64s (by omega)]
    exact Evt.pos (by omega) (Evt.pos hm (Evt.pos (by omega) hn))
   ·refine ⟨h,Evt.step ?_⟩
    simp only [spec_l1New.l0]
    exact Evt.pos (by omega) (Evt.neg hm (Evt.ret _))
 exact hh l.length 0 (by omega) _
theorem l2Word_ok {b:List Int} {i:Int} (h:Int) (n:Nat) (hc:Cu b i) (hn:n≤200):∃ s i' h',Evt (fun k=>spec_l2Word.f k b i h (n:Int)) (s,i',h')∧s.size≤n∧Cu b i':=by
 obtain ⟨m,i1,h1,e,m0,m1,hc1⟩:=l1Below_ok h ((n:Int)+1) hc (by omega) (by omega)
 obtain ⟨m,rfl⟩:=Int.eq_ofNat_of_zero_le m0
 have hh:∀ d j:Nat,j+d=m→∀ (acc:ByteArray) (i h:Int),acc.size≤j→Cu b i→∃ s i' h',Evt (fun k=>spec_l2Word.l0 k acc (m:Int) (j:Int) b i h) (s,i',h')∧s.size≤n∧Cu b i':=by
  intro d
  induction d with
  | zero =>
   intro j hj acc i h ha hc
   refine ⟨acc,i,h,Evt.step ?_,by omega,hc⟩
   simp only [spec_l2Word.l0]
   exact Evt.neg (by omega) (Evt.ret _)
  | succ d ih =>
   intro j hj acc i h ha hc
   obtain ⟨s,i',h',e,hs,hc'⟩:=l1Pick_ok h [(⟨#[97]⟩:ByteArray),(⟨#[98]⟩:ByteArray),(⟨#[97]⟩:ByteArray),(⟨#[98]⟩:ByteArray),(⟨#[99]⟩:ByteArray)] hc (by decide) (by decide)
   have hs1:s.size=1:=by
    simp only [List.mem_cons,List.not_mem_nil,or_false] at hs
    rcases hs with rfl|rfl|rfl|rfl|rfl <;> rfl
   obtain ⟨r,i2,h2,hr,hr2,hc2⟩:=ih (j+1) (by omega) (acc ++ s) i' h' za87 hc'
   refine ⟨r,i2,h2,Evt.step ?_,hr2,hc2⟩
   simp only [spec_l2Word.l0]
   rw [w64s (by omega)]
   exact Evt.pos (by omega) (Evt.bindc e (Evt.pos (show acc.size+s.size≤9223372036854775807 by omega) hr))
 obtain ⟨s,i',h',hr,hr2,hc2⟩:=hh m 0 (by omega) (⟨#[]⟩:ByteArray) i1 h1 (Nat.le_refl _) hc1
 refine ⟨s,i',h',?_,hr2,hc2⟩
 simp only [spec_l2Word.f]
 rw [w64 (by omega) (by omega)]
 exact Evt.bindc e hr
theorem l2Any_ok {b:List Int} {i:Int} (h:Int) (hc:Cu b i):∃ s i' h',Evt (fun k=>spec_l2Any.f k b i h) (s,i',h')∧s.size≤31∧Cu b i':=by
 obtain ⟨s,i1,h1,e,hs,hc1⟩:=l2Word_ok h 6 hc (by omega)
 obtain ⟨r,i2,h2,e2,hr,hc2⟩:=l1Pick_ok h1 [(⟨#[]⟩:ByteArray),(⟨#[97]⟩:ByteArray),(⟨#[97,98,99]⟩:ByteArray),(⟨#[99,99]⟩:ByteArray),(⟨#[97,98,100]⟩:ByteArray),(⟨#[65]⟩:ByteArray),(⟨#[99,99,99,99,99,99,99,99,99,99,99,99,99,99,99,99,99,99,99,99,99,99,99,99,99,99,99,99,99,99]⟩:ByteArray),(⟨#[97,97,97,97,97,97,97,97,97,97,97,97,97,97,97,97,97,97,97,97,97,97,97,97,97,97,97,97,97,97,97]⟩:ByteArray),(⟨#[97,99,99]⟩:ByteArray),s] hc1 (by simp) (by simp)
 refine ⟨r,i2,h2,?_,?_,hc2⟩
 ·simp only [spec_l2Any.f]
  exact Evt.bind e (Evt.bindc e2 (Evt.ret _))
 ·simp only [List.mem_cons,List.not_mem_nil,or_false] at hr
  rcases hr with rfl|rfl|rfl|rfl|rfl|rfl|rfl|rfl|rfl|rfl
  all_goals first|decide|omega
theorem l8Draw_ok {b:List Int} {i:Int} (h:Int) (n:Nat) (vars:ByteArray) (hc:Cu b i) (hn:n≤200) (hv:vars.size≤3):∃ s i' h',Evt (fun k=>spec_l8Draw.f k b i h (n:Int) vars) (s,i',h')∧s.size≤n∧Cu b i':=by
 obtain ⟨m,i1,h1,e,m0,m1,hc1⟩:=l1Below_ok h ((n:Int)+1) hc (by omega) (by omega)
 obtain ⟨m,rfl⟩:=Int.eq_ofNat_of_zero_le m0
 have hh:∀ d j:Nat,j+d=m→∀ (acc:ByteArray) (i h:Int),acc.size≤j→Cu b i→∃ s i' h',Evt (fun k=>spec_l8Draw.l0 k vars acc (m:Int) (j:Int) b i h) (s,i',h')∧s.size≤n∧Cu b i':=by
  intro d
  induction d with
  | zero =>
   intro j hj acc i h ha hc
   refine ⟨acc,i,h,Evt.step ?_,by omega,hc⟩
   simp only [spec_l8Draw.l0]
   exact Evt.neg (by omega) (Evt.ret _)
  | succ d ih =>
   intro j hj acc i h ha hc
   obtain ⟨s,i',h',e,hs,hc'⟩:=l1Pick_ok h [(⟨#[97]⟩:ByteArray),(⟨#[98]⟩:ByteArray),(⟨#[88]⟩:ByteArray),(⟨#[89]⟩:ByteArray),(⟨#[88]⟩:ByteArray),(⟨#[97]⟩:ByteArray),(⟨#[90]⟩:ByteArray)] hc (by decide) (by decide)
   have hs1:s.size=1:=by
    simp only [List.mem_cons,List.not_mem_nil,or_false] at hs
    rcases hs with rfl|rfl|rfl|rfl|rfl|rfl|rfl <;> rfl
   obtain ⟨r,i2,h2,hr,hr2,hc2⟩:=ih (j+1) (by omega) (acc ++ s) i' h' za87 hc'
   obtain ⟨r',i3,h3,hr',hr2',hc3⟩:=ih (j+1) (by omega) acc i' h' (by omega) hc'
   by_cases c1:ltI (bt s 0) ≥ 0
   ·refine ⟨r,i2,h2,Evt.step ?_,hr2,hc2⟩
    simp only [spec_l8Draw.l0]
    rw [w64s (by omega)]
    exact Evt.pos (by omega) (Evt.bindc e (Evt.pos (show 0 < (s.size:Int) by omega) (Evt.bind (spec_LetterIndex_ev _) (Evt.pos c1 (Evt.pos (show acc.size+s.size≤9223372036854775807 by omega) hr)))))
   ·by_cases c2:((cntB (bytesOf vars) (bt s 0):Nat):Int) > 0
    ·by_cases c3:((cntB (bytesOf acc) (bt s 0):Nat):Int) < 2
     ·refine ⟨r,i2,h2,Evt.step ?_,hr2,hc2⟩
      simp only [spec_l8Draw.l0]
      rw [w64s (by omega)]
      exact Evt.pos (by omega) (Evt.bindc e (Evt.pos (show 0 < (s.size:Int) by omega) (Evt.bind (spec_LetterIndex_ev _) (Evt.neg c1 (Evt.bind (spec_CountByte_ev _ _ (by omega)) (Evt.pos c2 (Evt.bind (spec_CountByte_ev _ _ (by omega)) (Evt.pos c3 (Evt.pos (show acc.size+s.size≤9223372036854775807 by omega) hr)))))))))
     ·refine ⟨r',i3,h3,Evt.step ?_,hr2',hc3⟩
      simp only [spec_l8Draw.l0]
      rw [w64s (by omega)]
      exact Evt.pos (by omega) (Evt.bindc e (Evt.pos (show 0 < (s.size:Int) by omega) (Evt.bind (spec_LetterIndex_ev _) (Evt.neg c1 (Evt.bind (spec_CountByte_ev _ _ (by omega)) (Evt.pos c2 (Evt.bind (spec_CountByte_ev _ _ (by omega)) (Evt.neg c3 hr'))))))))
    ·refine ⟨r',i3,h3,Evt.step ?_,hr2',hc3⟩
     simp only [spec_l8Draw.l0]
     rw [w64s (by omega)]
     exact Evt.pos (by omega) (Evt.bindc e (Evt.pos (show 0 < (s.size:Int) by omega) (Evt.bind (spec_LetterIndex_ev _) (Evt.neg c1 (Evt.bind (spec_CountByte_ev _ _ (by omega)) (Evt.neg c2 hr'))))))
 obtain ⟨s,i',h',hr,hr2,hc2⟩:=hh m 0 (by omega) (⟨#[]⟩:ByteArray) i1 h1 (Nat.le_refl _) hc1
 refine ⟨s,i',h',?_,hr2,hc2⟩
 simp only [spec_l8Draw.f]
 rw [w64 (by omega) (by omega)]
 exact Evt.bindc e hr
theorem l8Any_ok {b:List Int} {i:Int} (h:Int) (hc:Cu b i):∃ s i' h',Evt (fun k=>spec_l8Any.f k b i h) (s,i',h')∧s.size≤13∧Cu b i':=by
 obtain ⟨s,i1,h1,e,hs,hc1⟩:=l8Draw_ok h 6 (⟨#[88,89,90]⟩:ByteArray) hc (by omega) (by decide)
 obtain ⟨r,i2,h2,e2,hr,hc2⟩:=l1Pick_ok h1 [(⟨#[]⟩:ByteArray),(⟨#[97,88,98]⟩:ByteArray),(⟨#[88,88]⟩:ByteArray),(⟨#[87]⟩:ByteArray),(⟨#[90,89,88]⟩:ByteArray),(⟨#[97,97,97,97,97,97,97,97,97,97,97,97]⟩:ByteArray),(⟨#[97,97,97,97,97,97,97,97,97,97,97,97,88]⟩:ByteArray),(⟨#[120]⟩:ByteArray),s] hc1 (by simp) (by simp)
 refine ⟨r,i2,h2,?_,?_,hc2⟩
 ·simp only [spec_l8Any.f]
  exact Evt.bind e (Evt.bindc e2 (Evt.ret _))
 ·simp only [List.mem_cons,List.not_mem_nil,or_false] at hr
  rcases hr with rfl|rfl|rfl|rfl|rfl|rfl|rfl|rfl|rfl
  all_goals first|decide|omega
theorem l8Values_ok {b:List Int} {i:Int} (h:Int) (hc:Cu b i):∃ x y z i' h',Evt (fun k=>spec_l8Values.f k b i h) (x,y,z,i',h')∧x.size≤31∧y.size≤31∧z.size≤31∧Cu b i':=by
 obtain ⟨x,i1,h1,e1,s1,c1⟩:=l2Word_ok h 3 hc (by omega)
 obtain ⟨y,i2,h2,e2,s2,c2⟩:=l2Word_ok h1 3 c1 (by omega)
 obtain ⟨o,i3,h3,e3,c3⟩:=l1Once_ok h2 10 c2 (by omega) (by omega)
 simp only [spec_l8Values.f]
 cases o with
 | true =>
  obtain ⟨x',i4,h4,e4,s4,c4⟩:=l2Any_ok h3 c3
  obtain ⟨z,i5,h5,e5,s5,c5⟩:=l2Word_ok h4 2 c4 (by omega)
  exact ⟨x',y,z,i5,h5,Evt.bind e1 (Evt.bind e2 (Evt.bindc e3 (Evt.pos rfl (Evt.bind e4 (Evt.bind e5 (Evt.ret _)))))),s4,by omega,by omega,c5⟩
 | false =>
  obtain ⟨z,i5,h5,e5,s5,c5⟩:=l2Word_ok h3 2 c3 (by omega)
  exact ⟨x,y,z,i5,h5,Evt.bind e1 (Evt.bind e2 (Evt.bindc e3 (Evt.neg zff (Evt.bind e5 (Evt.ret _))))),by omega,by omega,by omega,c5⟩
theorem cu0 {l:List Int} (hl:l.length≤1048576):Cu l 0:=⟨hl,Int.le_refl _,by omega⟩
theorem l1PickInt_ok {b:List Int} {i:Int} (h:Int) (l:List Int) (hc:Cu b i) (hn:1≤l.length) (hn':l.length≤256):∃ s i' h',spec_l1PickInt.f b i h l=some (s,i',h')∧s ∈ l∧Cu b i':=by
 obtain ⟨x,i',h',e,h0,h1,hc'⟩:=l1Below_ok h (l.length:Int) hc (by omega) (by omega)
 unfold spec_l1PickInt.f
 rw [e]
 simp only [Option.bind_some]
 rw [if_pos h0,if_pos h1]
 refine ⟨_,_,_,rfl,?_,hc'⟩
 have hx:x.toNat < l.length:=by omega
 unfold rd
 rw [List.getD_eq_getElem?_getD,List.getElem?_eq_getElem hx]
 exact List.getElem_mem hx
theorem bd_nil:Bd ([]:List S54) 0:=⟨fun d=>by cases d <;> simp [cntN],0,fun _ _=>rfl⟩
theorem bd_cons {y:S54} {ys:List S54} {c c':Nat} (h:Bd y.f2 c) (h':Bd ys c'):Bd (y :: ys) (1+c+c'):=by
 obtain ⟨b1,N1,n1⟩:=h
 obtain ⟨b2,N2,n2⟩:=h'
 refine ⟨fun d=>?_,max (N1+1) N2,fun d hd=>?_⟩
 ·cases d with
  | zero=>simp [cntN]
  | succ d =>
   have h1:=b1 d
   have h2:=b2 (d+1)
   simp only [cntN,List.map_cons,List.sum_cons] at h2 ⊢
   omega
 ·obtain ⟨d',rfl⟩:∃ d',d=d'+1:=⟨d - 1,by omega⟩
  rw [List.all_cons,n2 (d'+1) (by omega),Bool.and_true]
  exact n1 d' (by omega)
def cd:Nat→Nat
 | 0=>0
 | d+1=>2+2 * cd d
theorem cd_pow (n:Nat):cd n+2=2 ^ (n+1):=by
 induction n with
 | zero=>rfl
 | succ n ih=>rw [Nat.pow_succ,← ih];simp only [cd];omega
def RxD (n:Nat) (x:S54):Prop:=Sm x∧∃ c,c≤cd n∧Bd x.f2 c
theorem rxD_leaf (n:Nat) (a:Int) (s:ByteArray):RxD n ⟨a,s,[]⟩:=⟨Sm.mk a s [] (by simp) (fun x hx=>by cases hx) ⟨0,by omega,bd_nil⟩,0,Nat.zero_le _,bd_nil⟩
theorem cd_small {n:Nat} (hn:n≤18):cd n≤1048576:=by
 have h:=cd_pow n
 have h2:2 ^ (n+1)≤2 ^ 19:=Nat.pow_le_pow_right (by omega) (by omega)
 have h3:(2:Nat) ^ 19=524288:=by decide
 omega
theorem rxD_one {n:Nat} {y:S54} (hn:n≤17) (a:Int) (s:ByteArray) (hy:RxD n y):RxD (n+1) ⟨a,s,[y]⟩:=by
 obtain ⟨h1,c,hc,hb⟩:=hy
 have hd:=bd_cons hb bd_nil
 have hs:=cd_small (n:=n+1) (by omega)
 have hq:cd (n+1)=2+2 * cd n:=rfl
 refine ⟨Sm.mk a s [y] (by simp) (fun x hx=>?_) ⟨_,by omega,hd⟩,_,by omega,hd⟩
 obtain rfl:=List.mem_singleton.1 hx
 exact h1
theorem rxD_two {n:Nat} {y z:S54} (hn:n≤17) (a:Int) (s:ByteArray) (hy:RxD n y) (hz:RxD n z):RxD (n+1) ⟨a,s,[y,z]⟩:=by
 obtain ⟨h1,c,hc,hb⟩:=hy
 obtain ⟨h2,c',hc',hb'⟩:=hz
 have hd:=bd_cons hb (bd_cons hb' bd_nil)
 have hs:=cd_small (n:=n+1) (by omega)
 have hq:cd (n+1)=2+2 * cd n:=rfl
 refine ⟨Sm.mk a s [y,z] (by simp) (fun x hx=>?_) ⟨_,by omega,hd⟩,_,by omega,hd⟩
 rcases List.mem_cons.1 hx with rfl|hx
 ·exact h1
 ·obtain rfl:=List.mem_singleton.1 hx
  exact h2
def DrawsR (b:List Int) (n:Nat) (g:Nat→Option (Int × ByteArray × List S54 × Int × Int)):Prop:=∃ a s l i' h',Evt g (a,s,l,i',h')∧RxD n ⟨a,s,l⟩∧Cu b i'
theorem l3Draw_ok (b:List Int):∀ n:Nat,n≤17→∀ i h:Int,Cu b i→DrawsR b n (fun k=>spec_l3Draw.f k b i h (n:Int)):=by
 intro n
 induction n with
 | zero =>
  intro hn i h hc
  have hj:DrawsR b 0 (fun k=>spec_l3Draw.j0 k ((0:Nat):Int) true b i h):=by
   obtain ⟨q,i1,h1,e1,q0,q1,c1⟩:=l1Below_ok h 8 hc (by omega) (by omega)
   by_cases z0:q=0
   ·refine ⟨_,_,_,i1,h1,Evt.step ?_,rxD_leaf _ 2 (⟨#[]⟩:ByteArray),c1⟩
    simp only [spec_l3Draw.j0]
    exact Evt.pos trivial (Evt.bindc e1 (Evt.pos z0 (Evt.ret _)))
   by_cases z1:q=1
   ·refine ⟨_,_,_,i1,h1,Evt.step ?_,rxD_leaf _ 4 (⟨#[]⟩:ByteArray),c1⟩
    simp only [spec_l3Draw.j0]
    exact Evt.pos trivial (Evt.bindc e1 (Evt.neg z0 (Evt.pos z1 (Evt.ret _))))
   by_cases z2:q=2
   ·refine ⟨_,_,_,i1,h1,Evt.step ?_,rxD_leaf _ 1 (⟨#[]⟩:ByteArray),c1⟩
    simp only [spec_l3Draw.j0]
    exact Evt.pos trivial (Evt.bindc e1 (Evt.neg z0 (Evt.neg z1 (Evt.pos z2 (Evt.ret _)))))
   obtain ⟨s,i2,h2,e2,_,c2⟩:=l1Pick_ok h1 [(⟨#[97]⟩:ByteArray),(⟨#[97]⟩:ByteArray),(⟨#[98]⟩:ByteArray),(⟨#[98]⟩:ByteArray),(⟨#[99]⟩:ByteArray)] c1 (by decide) (by decide)
   refine ⟨_,_,_,i2,h2,Evt.step ?_,rxD_leaf _ 3 s,c2⟩
   simp only [spec_l3Draw.j0]
   exact Evt.pos trivial (Evt.bindc e1 (Evt.neg z0 (Evt.neg z1 (Evt.neg z2 (Evt.bindc e2 (Evt.ret _))))))
  obtain ⟨a,s,l,i',h',e,h1,h2⟩:=hj
  refine ⟨a,s,l,i',h',Evt.step ?_,h1,h2⟩
  simp only [spec_l3Draw.f]
  exact Evt.pos (by omega) e
 | succ n ih =>
  intro hn i h hc
  have hw:wrap64 (((n+1:Nat):Int) - 1)=(n:Int):=by rw [w64 (by omega) (by omega)];omega
  have one:∀ (kd:Int) {i h:Int},Cu b i→DrawsR b (n+1) (fun k=>(spec_l3Draw.f k b i h (n:Int)).bind fun q=>some (kd,(⟨#[]⟩:ByteArray),[(⟨q.1,q.2.1,q.2.2.1⟩:S54)],q.2.2.2.1,q.2.2.2.2)):=by
   intro kd i h hc
   obtain ⟨a,s,l,i',h',e,g1,g2⟩:=ih (by omega) i h hc
   exact ⟨_,_,_,_,_,Evt.bind e (Evt.ret _),rxD_one (by omega) kd _ g1,g2⟩
  have two:∀ (kd:Int) {i h:Int},Cu b i→DrawsR b (n+1) (fun k=>(spec_l3Draw.f k b i h (n:Int)).bind fun p=>(spec_l3Draw.f k b p.2.2.2.1 p.2.2.2.2 (n:Int)).bind fun q=>some (kd,(⟨#[]⟩:ByteArray),[(⟨p.1,p.2.1,p.2.2.1⟩:S54),(⟨q.1,q.2.1,q.2.2.1⟩:S54)],q.2.2.2.1,q.2.2.2.2)):=by
   intro kd i h hc
   obtain ⟨a,s,l,i',h',e,g1,g2⟩:=ih (by omega) i h hc
   obtain ⟨a2,s2,l2,i2,h2,e2,g3,g4⟩:=ih (by omega) i' h' g2
   exact ⟨_,_,_,_,_,Evt.bind e (Evt.bind e2 (Evt.ret _)),rxD_two (by omega) kd _ g1 g3,g4⟩
  have leaf:∀ {i h:Int},Cu b i→DrawsR b (n+1) (fun k=>spec_l3Draw.j0 k ((n+1:Nat):Int) true b i h):=by
   intro i h hc
   obtain ⟨q,i1,h1,e1,q0,q1,c1⟩:=l1Below_ok h 8 hc (by omega) (by omega)
   by_cases z0:q=0
   ·refine ⟨_,_,_,i1,h1,Evt.step ?_,rxD_leaf _ 2 (⟨#[]⟩:ByteArray),c1⟩
    simp only [spec_l3Draw.j0]
    exact Evt.pos trivial (Evt.bindc e1 (Evt.pos z0 (Evt.ret _)))
   by_cases z1:q=1
   ·refine ⟨_,_,_,i1,h1,Evt.step ?_,rxD_leaf _ 4 (⟨#[]⟩:ByteArray),c1⟩
    simp only [spec_l3Draw.j0]
    exact Evt.pos trivial (Evt.bindc e1 (Evt.neg z0 (Evt.pos z1 (Evt.ret _))))
   by_cases z2:q=2
   ·refine ⟨_,_,_,i1,h1,Evt.step ?_,rxD_leaf _ 1 (⟨#[]⟩:ByteArray),c1⟩
    simp only [spec_l3Draw.j0]
    exact Evt.pos trivial (Evt.bindc e1 (Evt.neg z0 (Evt.neg z1 (Evt.pos z2 (Evt.ret _)))))
   obtain ⟨s,i2,h2,e2,_,c2⟩:=l1Pick_ok h1 [(⟨#[97]⟩:ByteArray),(⟨#[97]⟩:ByteArray),(⟨#[98]⟩:ByteArray),(⟨#[98]⟩:ByteArray),(⟨#[99]⟩:ByteArray)] c1 (by decide) (by decide)
   refine ⟨_,_,_,i2,h2,Evt.step ?_,rxD_leaf _ 3 s,c2⟩
   simp only [spec_l3Draw.j0]
   exact Evt.pos trivial (Evt.bindc e1 (Evt.neg z0 (Evt.neg z1 (Evt.neg z2 (Evt.bindc e2 (Evt.ret _))))))
  have stp:∀ {g:Nat→Option (Int × ByteArray × List S54 × Int × Int)},DrawsR b (n+1) (fun k=>g (k+1))→DrawsR b (n+1) g:=by
   rintro g ⟨a,s,l,i',h',e,g1,g2⟩
   exact ⟨a,s,l,i',h',Evt.step e,g1,g2⟩
  have pos:∀ {c:Prop} [Decidable c] {t e:Nat→Option (Int × ByteArray × List S54 × Int × Int)},c→DrawsR b (n+1) t→DrawsR b (n+1) (fun k=>if c then t k else e k):=by
   rintro c _ t e hcc ⟨a,s,l,i',h',e,g1,g2⟩
   exact ⟨a,s,l,i',h',Evt.pos hcc e,g1,g2⟩
  have neg:∀ {c:Prop} [Decidable c] {t e:Nat→Option (Int × ByteArray × List S54 × Int × Int)},¬ c→DrawsR b (n+1) e→DrawsR b (n+1) (fun k=>if c then t k else e k):=by
   rintro c _ t e hcc ⟨a,s,l,i',h',e,g1,g2⟩
   exact ⟨a,s,l,i',h',Evt.neg hcc e,g1,g2⟩
  have j2:∀ (x:Bool) {i h:Int},Cu b i→DrawsR b (n+1) (fun k=>spec_l3Draw.j2 k ((n+1:Nat):Int) x b i h):=by
   intro x i h hc
   refine stp ?_
   simp only [spec_l3Draw.j2,hw]
   cases x with
   | true=>exact pos rfl (two 6 hc)
   | false=>exact neg (by decide) (two 5 hc)
  have j1:∀ (q:Int) (x:Bool) {i h:Int},Cu b i→DrawsR b (n+1) (fun k=>spec_l3Draw.j1 k ((n+1:Nat):Int) q x b i h):=by
   intro q x i h hc
   refine stp ?_
   simp only [spec_l3Draw.j1,hw]
   cases x with
   | true=>exact pos rfl (one 8 hc)
   | false =>
    refine neg (by decide) ?_
    by_cases z3:q=3
    ·exact pos z3 (one 9 hc)
    refine neg z3 ?_
    by_cases z4:q=4
    ·exact pos z4 (two 7 hc)
    refine neg z4 ?_
    by_cases z5:q=5
    ·exact pos z5 (j2 _ hc)
    ·exact neg z5 (j2 _ hc)
  have j0:∀ (x:Bool) {i h:Int},Cu b i→DrawsR b (n+1) (fun k=>spec_l3Draw.j0 k ((n+1:Nat):Int) x b i h):=by
   intro x i h hc
   cases x with
   | true=>exact leaf hc
   | false =>
    obtain ⟨q,i1,h1,e1,q0,q1,c1⟩:=l1Below_ok h 10 hc (by omega) (by omega)
    refine stp ?_
    simp only [spec_l3Draw.j0]
    refine neg (by decide) ?_
    have key:DrawsR b (n+1) (fun k=>if q=0 then spec_l3Draw.j1 k ((n+1:Nat):Int) q (q == 0) b i1 h1 else if q=1 then spec_l3Draw.j1 k ((n+1:Nat):Int) q (q == 1) b i1 h1 else spec_l3Draw.j1 k ((n+1:Nat):Int) q (q == 2) b i1 h1):=by
     by_cases z0:q=0
     ·exact pos z0 (j1 _ _ c1)
     refine neg z0 ?_
     by_cases z1:q=1
     ·exact pos z1 (j1 _ _ c1)
     ·exact neg z1 (j1 _ _ c1)
    obtain ⟨a,s,l,i',h',e,g1,g2⟩:=key
    exact ⟨a,s,l,i',h',Evt.bindc e1 e,g1,g2⟩
  refine stp ?_
  simp only [spec_l3Draw.f]
  by_cases z:((n+1:Nat):Int) < 2
  ·exact pos z (j0 true hc)
  refine neg z ?_
  obtain ⟨o,i1,h1,e1,c1⟩:=l1Once_ok h 5 hc (by omega) (by omega)
  obtain ⟨a,s,l,i',h',e,g1,g2⟩:=j0 o (h:=h1) c1
  exact ⟨a,s,l,i',h',Evt.bindc e1 e,g1,g2⟩
def DrawsC (b:List Int) (g:Nat→Option (Int × ByteArray × ByteArray × Int × ByteArray × List S54 × List Int × Int × Int × Int)):Prop :=
 ∃ a p q d s l m n i' h',Evt g (a,p,q,d,s,l,m,n,i',h')∧(RxD 4 ⟨d,s,l⟩∧m.length≤4∧p.size≤13∧q.size≤13)∧Cu b i'
theorem rxD_up {n m:Nat} (h:n≤m) {x:S54} (hx:RxD n x):RxD m x:=by
 obtain ⟨h1,c,h2,h3⟩:=hx
 refine ⟨h1,c,?_,h3⟩
 have:cd n≤cd m:=by
  have e1:=cd_pow n
  have e2:=cd_pow m
  have e3:2 ^ (n+1)≤2 ^ (m+1):=Nat.pow_le_pow_right (by omega) (by omega)
  omega
 omega
theorem DrawsC.step {b:List Int} {g:Nat→Option (Int × ByteArray × ByteArray × Int × ByteArray × List S54 × List Int × Int × Int × Int)} (h:DrawsC b (fun k=>g (k+1))):DrawsC b g:=by
 obtain ⟨a,p,q,d,s,l,m,n,i',h',e,g1,g2⟩:=h
 exact ⟨a,p,q,d,s,l,m,n,i',h',Evt.step e,g1,g2⟩
theorem DrawsC.pos {b:List Int} {c:Prop} [Decidable c] {t e:Nat→Option (Int × ByteArray × ByteArray × Int × ByteArray × List S54 × List Int × Int × Int × Int)} (hc:c) (h:DrawsC b t):DrawsC b (fun k=>if c then t k else e k):=by
 obtain ⟨a,p,q,d,s,l,m,n,i',h',e,g1,g2⟩:=h
 exact ⟨a,p,q,d,s,l,m,n,i',h',Evt.pos hc e,g1,g2⟩
theorem DrawsC.neg {b:List Int} {c:Prop} [Decidable c] {t e:Nat→Option (Int × ByteArray × ByteArray × Int × ByteArray × List S54 × List Int × Int × Int × Int)} (hc:¬ c) (h:DrawsC b e):DrawsC b (fun k=>if c then t k else e k):=by
 obtain ⟨a,p,q,d,s,l,m,n,i',h',e,g1,g2⟩:=h
 exact ⟨a,p,q,d,s,l,m,n,i',h',Evt.neg hc e,g1,g2⟩
theorem DrawsC.bind {b:List Int} {α:Type} {g:Nat→Option α} {f:Nat→α→Option (Int × ByteArray × ByteArray × Int × ByteArray × List S54 × List Int × Int × Int × Int)} {x:α} (hg:Evt g x) (h:DrawsC b (fun k=>f k x)):DrawsC b (fun k=>(g k).bind (f k)):=by
 obtain ⟨a,p,q,d,s,l,m,n,i',h',e,g1,g2⟩:=h
 exact ⟨a,p,q,d,s,l,m,n,i',h',Evt.bind hg e,g1,g2⟩
theorem DrawsC.bindc {b:List Int} {α:Type} {g:Option α} {f:Nat→α→Option (Int × ByteArray × ByteArray × Int × ByteArray × List S54 × List Int × Int × Int × Int)} {x:α} (hg:g=some x) (h:DrawsC b (fun k=>f k x)):DrawsC b (fun k=>g.bind (f k)):=DrawsC.bind (Evt.const hg) h
theorem l9Draw_ok {b:List Int} {i:Int} (h:Int) (vars:ByteArray) (hc:Cu b i) (h1:1≤vars.size) (h3:vars.size≤3):DrawsC b (fun k=>spec_l9Draw.f k b i h vars):=by
 have two:∀ (kd:Int) (n:Nat),n≤4→∀ {i h:Int},Cu b i→DrawsC b (fun k=>(spec_l8Draw.f k b i h (n:Int) vars).bind fun p=>(spec_l8Draw.f k b p.2.1 p.2.2 (n:Int) vars).bind fun q=>some (kd,p.1,q.1,0,(⟨#[]⟩:ByteArray),([]:List S54),([]:List Int),0,q.2.1,q.2.2)):=by
  intro kd n hn i h hc
  obtain ⟨s,i1,h1,e1,s1,c1⟩:=l8Draw_ok h n vars hc (by omega) h3
  obtain ⟨t,i2,h2,e2,s2,c2⟩:=l8Draw_ok h1 n vars c1 (by omega) h3
  exact ⟨_,_,_,_,_,_,_,_,_,_,Evt.bind e1 (Evt.bind e2 (Evt.ret _)),⟨rxD_leaf _ _ _,by simp,by show s.size≤13;omega,by show t.size≤13;omega⟩,c2⟩
 have l0:∀ d j:Nat,j+d=3→∀ {i h:Int},Cu b i→∀ (m:List Int) (n:Int),m.length=j→DrawsC b (fun k=>spec_l9Draw.l0 k vars (j:Int) b i h 5 (⟨#[]⟩:ByteArray) (⟨#[]⟩:ByteArray) 0 (⟨#[]⟩:ByteArray) m n):=by
  intro d
  induction d with
  | zero =>
   intro j hj i h hc m n hm
   refine DrawsC.step ?_
   simp only [spec_l9Draw.l0]
   exact DrawsC.neg (by omega) ⟨_,_,_,_,_,_,_,_,_,_,Evt.ret _,⟨rxD_leaf _ _ _,by show m.length≤4;omega,by decide,by decide⟩,hc⟩
  | succ d ih =>
   intro j hj i h hc m n hm
   obtain ⟨q,i1,h1,e1,_,c1⟩:=l1PickInt_ok h [1,(-1),0,2] hc (by decide) (by decide)
   refine DrawsC.step ?_
   simp only [spec_l9Draw.l0]
   rw [w64s (by omega)]
   have hb:∀ x:Bool,∃ y,spec_l1Bit.f x=some y:=by intro x;cases x <;> simp [spec_l1Bit.f]
   obtain ⟨y,hy⟩:=hb (decide (((cntB (bytesOf vars) (bt (⟨#[88,89,90]⟩:ByteArray) (j:Int)):Nat):Int) > 0))
   exact DrawsC.pos (by omega) (DrawsC.pos (by omega) (DrawsC.bind (spec_CountByte_ev _ _ (by omega)) (DrawsC.bindc hy (DrawsC.bindc e1 (DrawsC.pos (show m.length < 17592186044416 by omega) (ih (j+1) (by omega) c1 _ n (by simp;omega)))))))
 have j1:∀ (q:Int) (x:Bool) {i h:Int},Cu b i→DrawsC b (fun k=>spec_l9Draw.j1 k vars q x b i h):=by
  intro q x i h hc
  refine DrawsC.step ?_
  simp only [spec_l9Draw.j1]
  cases x with
  | true =>
   obtain ⟨a,s,l,i',h',e,g1,g2⟩:=l3Draw_ok b 3 (by omega) i h hc
   refine DrawsC.pos rfl (DrawsC.pos (by omega) (DrawsC.pos (by omega) ⟨_,_,_,_,_,_,_,_,_,_,Evt.bind e (Evt.ret _),⟨rxD_up (by omega) g1,by simp,?_,by decide⟩,g2⟩))
   show (vars.extract 0 1).size≤13
   rw [ByteArray.size_extract]
   omega
  | false =>
   refine DrawsC.neg (by decide) ?_
   by_cases z6:q=6
   ·have hw:wrap64 ((vars.size:Int) - 1)=(vars.size:Int) - 1:=w64 (by omega) (by omega)
    rw [hw]
    obtain ⟨a,s,l,i',h',e,g1,g2⟩:=l3Draw_ok b 3 (by omega) i h hc
    refine DrawsC.pos z6 (DrawsC.pos (by omega) (DrawsC.pos (by omega) ⟨_,_,_,_,_,_,_,_,_,_,Evt.bind e (Evt.ret _),⟨rxD_up (by omega) g1,by simp,?_,by decide⟩,g2⟩))
    show (vars.extract _ _).size≤13
    rw [ByteArray.size_extract]
    omega
   ·obtain ⟨n,i1,h1,e1,_,c1⟩:=l1PickInt_ok h [0,1,3,(-1)] hc (by decide) (by decide)
    exact DrawsC.neg z6 (DrawsC.bindc e1 (l0 3 0 (by omega) c1 [] n rfl))
 have j0:∀ (q:Int) (x:Bool) {i h:Int},Cu b i→DrawsC b (fun k=>spec_l9Draw.j0 k vars q x b i h):=by
  intro q x i h hc
  refine DrawsC.step ?_
  simp only [spec_l9Draw.j0]
  cases x with
  | true=>exact DrawsC.pos rfl (two 1 4 (by omega) hc)
  | false =>
   refine DrawsC.neg (by decide) ?_
   by_cases z3:q=3
   ·exact DrawsC.pos z3 (two 2 3 (by omega) hc)
   refine DrawsC.neg z3 ?_
   by_cases z4:q=4
   ·exact DrawsC.pos z4 (j1 _ _ hc)
   ·exact DrawsC.neg z4 (j1 _ _ hc)
 obtain ⟨q,i1,h1,e1,_,_,c1⟩:=l1Below_ok h 8 hc (by omega) (by omega)
 simp only [spec_l9Draw.f]
 refine DrawsC.bindc e1 ?_
 by_cases z0:q=0
 ·exact DrawsC.pos z0 (j0 _ _ c1)
 refine DrawsC.neg z0 ?_
 by_cases z1:q=1
 ·exact DrawsC.pos z1 (j0 _ _ c1)
 ·exact DrawsC.neg z1 (j0 _ _ c1)
theorem l9Bent_ok {b:List Int} {i:Int} (h:Int) (hc:Cu b i):∃ a p q d s l m n i' h',Evt (fun k=>spec_l9Bent.f k b i h) (a,p,q,d,s,l,m,n,i',h')∧(RxD 4 ⟨d,s,l⟩∧m.length≤5∧p.size≤13∧q.size≤13)∧Cu b i':=by
 obtain ⟨a,p,q,d,s,l,m,n,i1,h1,e1,⟨g1,g2,g3,g4⟩,c1⟩:=l9Draw_ok h (⟨#[88,89,90]⟩:ByteArray) hc (by decide) (by decide)
 obtain ⟨o,i2,h2,e2,_,_,c2⟩:=l1Below_ok h1 10 c1 (by omega) (by omega)
 simp only [spec_l9Bent.f]
 by_cases z0:o=0
 ·obtain ⟨u,i3,h3,e3,_,_,c3⟩:=l1Below_ok h2 7 c2 (by omega) (by omega)
  exact ⟨_,_,_,_,_,_,_,_,_,_,Evt.bind e1 (Evt.bindc e2 (Evt.pos z0 (Evt.bindc e3 (Evt.ret _)))),⟨g1,by show m.length≤5;omega,g3,g4⟩,c3⟩
 by_cases z1:o=1
 ·obtain ⟨u,i3,h3,e3,s3,c3⟩:=l8Any_ok h2 c2
  exact ⟨_,_,_,_,_,_,_,_,_,_,Evt.bind e1 (Evt.bindc e2 (Evt.neg z0 (Evt.pos z1 (Evt.bind e3 (Evt.ret _))))),⟨g1,by show m.length≤5;omega,s3,g4⟩,c3⟩
 by_cases z2:o=2
 ·obtain ⟨u,i3,h3,e3,s3,c3⟩:=l1PickInt_ok h2 [99,100,(-99)] c2 (by decide) (by decide)
  exact ⟨_,_,_,_,_,_,_,_,_,_,Evt.bind e1 (Evt.bindc e2 (Evt.neg z0 (Evt.neg z1 (Evt.pos z2 (Evt.bindc e3 (Evt.ret _)))))),⟨g1,by show m.length≤5;omega,g3,g4⟩,c3⟩
 by_cases z3:o=3
 ·obtain ⟨u,i3,h3,e3,s3,c3⟩:=l1PickInt_ok h2 [0,9,10] c2 (by decide) (by decide)
  exact ⟨_,_,_,_,_,_,_,_,_,_,Evt.bind e1 (Evt.bindc e2 (Evt.neg z0 (Evt.neg z1 (Evt.neg z2 (Evt.pos z3 (Evt.bindc e3 (Evt.pos (show m.length < 17592186044416 by omega) (Evt.ret _)))))))),⟨g1,by rw [List.length_append];simp;omega,g3,g4⟩,c3⟩
 ·exact ⟨_,_,_,_,_,_,_,_,_,_,Evt.bind e1 (Evt.bindc e2 (Evt.neg z0 (Evt.neg z1 (Evt.neg z2 (Evt.neg z3 (Evt.ret _)))))),⟨g1,by show m.length≤5;omega,g3,g4⟩,c2⟩
theorem csSm_of {a:Int} {p q:ByteArray} {d:Int} {s:ByteArray} {l:List S54} {m:List Int} (n:Int) (h:RxD 4 ⟨d,s,l⟩) (hm:m.length≤5) (hp:p.size≤13) (hq:q.size≤13):CsSm ⟨a,p,q,⟨d,s,l⟩,m,n⟩ :=
 ⟨h.1,by show m.length≤1048576;omega,by show p.size≤1048576;omega,by show q.size≤1048576;omega⟩
theorem l10Draw_ok {b:List Int} {i:Int} (h:Int) (most:Nat) (hc:Cu b i) (h1:1≤most) (h2:most≤200):∃ ys i' h',Evt (fun k=>spec_l10Draw.f k b i h (most:Int)) (ys,i',h')∧1≤ys.length∧ys.length≤most∧(∀ y ∈ ys,CsSm y)∧Cu b i':=by
 obtain ⟨v,i1,h1',e1,hv,c1⟩:=l1Pick_ok h [(⟨#[88]⟩:ByteArray),(⟨#[88,89]⟩:ByteArray),(⟨#[88,89]⟩:ByteArray),(⟨#[88,89,90]⟩:ByteArray)] hc (by decide) (by decide)
 have hv1:1≤v.size∧v.size≤3:=by
  simp only [List.mem_cons,List.not_mem_nil,or_false] at hv
  rcases hv with rfl|rfl|rfl|rfl <;> decide
 obtain ⟨n,i2,h2',e2,n0,n1,c2⟩:=l1Below_ok h1' (most:Int) c1 (by omega) (by omega)
 obtain ⟨n,rfl⟩:=Int.eq_ofNat_of_zero_le n0
 have hw:wrap64 (1+(n:Int))=((n+1:Nat):Int):=by rw [w64 (by omega) (by omega)];omega
 have hh:∀ d j:Nat,j+d=n+1→∀ {i h:Int} (ys:List S56),Cu b i→ys.length=j→(∀ y ∈ ys,CsSm y)→∃ zs i' h',Evt (fun k=>spec_l10Draw.l0 k v ((n+1:Nat):Int) (j:Int) b i h ys) (zs,i',h')∧zs.length=n+1∧(∀ y ∈ zs,CsSm y)∧Cu b i':=by
  intro d
  induction d with
  | zero =>
   intro j hj i h ys hc hl hy
   refine ⟨ys,i,h,Evt.step ?_,by omega,hy,hc⟩
   simp only [spec_l10Draw.l0]
   exact Evt.neg (by omega) (Evt.ret _)
  | succ d ih =>
   intro j hj i h ys hc hl hy
   obtain ⟨a,p,q,d',s,l,m,n',i1,h1,e1,⟨g1,g2,g3,g4⟩,c1⟩:=l9Draw_ok h v hc hv1.1 hv1.2
   obtain ⟨zs,i2,h2,e2,k1,k2,k3⟩:=ih (j+1) (by omega) (h:=h1) (ys ++ [⟨a,p,q,⟨d',s,l⟩,m,n'⟩]) c1 (by simp;omega) (by
    intro y hm
    rcases List.mem_append.1 hm with hm|hm
    ·exact hy y hm
    ·obtain rfl:=List.mem_singleton.1 hm
     exact csSm_of n' g1 (by omega) g3 g4)
   refine ⟨zs,i2,h2,Evt.step ?_,k1,k2,k3⟩
   simp only [spec_l10Draw.l0]
   rw [w64s (by omega)]
   exact Evt.pos (by omega) (Evt.bind e1 (Evt.pos (by omega) e2))
 obtain ⟨zs,i3,h3,e3,k1,k2,k3⟩:=hh (n+1) 0 (by omega) (h:=h2') [] c2 rfl (fun y hy=>by cases hy)
 refine ⟨zs,i3,h3,?_,by omega,by omega,k2,k3⟩
 simp only [spec_l10Draw.f]
 exact Evt.bindc e1 (Evt.bindc e2 (by rw [hw];exact e3))
theorem l10Bent_ok {b:List Int} {i:Int} (h:Int) (hc:Cu b i):∃ ys i' h',Evt (fun k=>spec_l10Bent.f k b i h) (ys,i',h')∧1≤ys.length∧ys.length≤7∧(∀ y ∈ ys,CsSm y)∧Cu b i':=by
 obtain ⟨ys,i1,h1,e1,l1,l2,hy,c1⟩:=l10Draw_ok h 3 hc (by omega) (by omega)
 obtain ⟨o,i2,h2,e2,_,_,c2⟩:=l1Below_ok h1 12 c1 (by omega) (by omega)
 simp only [spec_l10Bent.f]
 by_cases z0:o=0
 ·obtain ⟨a,p,q,d,s,l,m,n,i3,h3,e3,⟨g1,g2,g3,g4⟩,c3⟩:=l9Bent_ok h2 c2
  refine ⟨_,_,_,Evt.bind e1 (Evt.bindc e2 (Evt.pos z0 (Evt.bind e3 (Evt.pos (by show 0 < (ys.length:Int);omega) (Evt.ret _))))),?_,?_,?_,c3⟩
  ·rw [List.length_set];exact l1
  ·rw [List.length_set];show ys.length≤7;omega
  ·intro y hm
   rcases List.mem_or_eq_of_mem_set hm with hm|rfl
   ·exact hy y hm
   ·exact csSm_of n g1 (by omega) g3 g4
 by_cases z1:o=1
 ·have hh:∀ d j:Nat,j+d=7→∀ {i h:Int} (ys:List S56),Cu b i→ys.length=j→(∀ y ∈ ys,CsSm y)→∃ zs i' h',Evt (fun k=>spec_l10Bent.l0 k b i h ys) (zs,i',h')∧zs.length=7∧(∀ y ∈ zs,CsSm y)∧Cu b i':=by
   intro d
   induction d with
   | zero =>
    intro j hj i h ys hc hl hy
    refine ⟨ys,i,h,Evt.step ?_,by omega,hy,hc⟩
    simp only [spec_l10Bent.l0]
    exact Evt.neg (by omega) (Evt.ret _)
   | succ d ih =>
    intro j hj i h ys hc hl hy
    obtain ⟨a,p,q,d',s,l,m,n',i1,h1,e1,⟨g1,g2,g3,g4⟩,c1⟩:=l9Draw_ok h (⟨#[88]⟩:ByteArray) hc (by decide) (by decide)
    obtain ⟨zs,i2,h2,e2,k1,k2,k3⟩:=ih (j+1) (by omega) (h:=h1) (ys ++ [⟨a,p,q,⟨d',s,l⟩,m,n'⟩]) c1 (by simp;omega) (by
     intro y hm
     rcases List.mem_append.1 hm with hm|hm
     ·exact hy y hm
     ·obtain rfl:=List.mem_singleton.1 hm
      exact csSm_of n' g1 (by omega) g3 g4)
    refine ⟨zs,i2,h2,Evt.step ?_,k1,k2,k3⟩
    simp only [spec_l10Bent.l0]
    exact Evt.pos (by omega) (Evt.bind e1 (Evt.pos (by omega) e2))
  obtain ⟨zs,i3,h3,e3,k1,k2,k3⟩:=hh (7 - ys.length) ys.length (by omega) (h:=h2) ys c2 rfl hy
  exact ⟨zs,i3,h3,Evt.bind e1 (Evt.bindc e2 (Evt.neg z0 (Evt.pos z1 e3))),by omega,by omega,k2,k3⟩
 ·exact ⟨ys,i2,h2,Evt.bind e1 (Evt.bindc e2 (Evt.neg z0 (Evt.neg z1 (Evt.ret _)))),l1,by omega,hy,c2⟩
end Go.Proofs.YtcbjhfoeecfcoaaGreat.F
namespace Go.Proofs.YtcbjhfoeecfcoaaGreat.Pure
open Go Go.RowKit YtcbjhfoeecfcoaaGreatW.PrintWords YtcbjhfoeecfcoaaGreat.Pl YtcbjhfoeecfcoaaGreat.F YtcbjhfoeecfcoaaGreat.A YtcbjhfoeecfcoaaGreat.Ext
theorem drawModels_ok (l:List Int) (hl:l.length≤1048576):∃ ys n,Evt (fun k=>spec_DrawModelsUpTo.f k l) (ys,n)∧ys.length≤7∧∀ y ∈ ys,CsSm y:=by
 obtain ⟨h,e0⟩:=l1New_ok l hl
 obtain ⟨o,i1,h1,e1,c1⟩:=l1Once_ok h 12 (cu0 hl) (by omega) (by omega)
 simp only [spec_DrawModelsUpTo.f,spec_l11Args.f]
 cases o with
 | true =>
  obtain ⟨ys,i2,h2,e2,_,l2,hy,c2⟩:=l10Bent_ok h1 c1
  obtain ⟨q,i3,h3,e3,_,_,c3⟩:=l1Below_ok h2 4 c2 (by omega) (by omega)
  exact ⟨ys,_,Evt.bind (Evt.bind e0 (Evt.bindc e1 (Evt.pos rfl (Evt.bind e2 (Evt.bindc e3 (Evt.ret _)))))) (Evt.ret _),l2,hy⟩
 | false =>
  obtain ⟨ys,i2,h2,e2,_,l2,hy,c2⟩:=l10Draw_ok h1 3 c1 (by omega) (by omega)
  obtain ⟨q,i3,h3,e3,_,c3⟩:=l1PickInt_ok h2 [1,2,2,3,0,5,9,(-1)] c2 (by decide) (by decide)
  exact ⟨ys,_,Evt.bind (Evt.bind e0 (Evt.bindc e1 (Evt.neg zff (Evt.bind e2 (Evt.bindc e3 (Evt.ret _)))))) (Evt.ret _),by omega,hy⟩
theorem setv_size {c:Int} {x y z:ByteArray} (hx:x.size≤31) (hy:y.size≤31) (hz:z.size≤31):(setv c (⟨#[]⟩:ByteArray) x y z).1.size≤31∧(setv c (⟨#[]⟩:ByteArray) x y z).2.1.size≤31∧(setv c (⟨#[]⟩:ByteArray) x y z).2.2.size≤31:=by
 have h0:(⟨#[]⟩:ByteArray).size≤31:=by decide
 unfold setv
 repeat' split
 all_goals exact ⟨by assumption,by assumption,by assumption⟩
theorem drawIsModel_ok (l:List Int) (hl:l.length≤1048576):∃ ys x y z,Evt (fun k=>spec_DrawIsModel.f k l) (ys,x,y,z)∧ys.length≤7∧(∀ y ∈ ys,CsSm y)∧x.size≤31∧y.size≤31∧z.size≤31:=by
 obtain ⟨h,e0⟩:=l1New_ok l hl
 obtain ⟨ys,i1,h1,e1,_,l2,hy,c1⟩:=l10Bent_ok h (cu0 hl)
 obtain ⟨x,y,z,i2,h2,e2,s1,s2,s3,c2⟩:=l8Values_ok h1 c1
 have hl0:∀ d j:Nat,j+d=3→∀ x y z:ByteArray,x.size≤31→y.size≤31→z.size≤31→∃ x' y' z',Evt (fun k=>spec_DrawIsModel.l0 k (varsP ys) (j:Int) l i2 h2 ys x y z) (ys,x',y',z')∧x'.size≤31∧y'.size≤31∧z'.size≤31:=by
  intro d
  induction d with
  | zero =>
   intro j hj x y z hx hy hz
   obtain ⟨o,i3,h3,e3,c3⟩:=l1Once_ok h2 2 c2 (by omega) (by omega)
   cases o with
   | true =>
    obtain ⟨s,i4,h4,e4,hs,c4⟩:=l1Pick_ok h3 [(⟨#[]⟩:ByteArray),(⟨#[97]⟩:ByteArray),(⟨#[97,98]⟩:ByteArray)] c3 (by decide) (by decide)
    refine ⟨s,(⟨#[]⟩:ByteArray),z,Evt.step ?_,?_,by decide,hz⟩
    ·simp only [spec_DrawIsModel.l0]
     exact Evt.neg (by omega) (Evt.bindc e3 (Evt.pos rfl (Evt.bindc e4 (Evt.ret _))))
    ·simp only [List.mem_cons,List.not_mem_nil,or_false] at hs
     rcases hs with rfl|rfl|rfl <;> decide
   | false =>
    refine ⟨x,y,z,Evt.step ?_,hx,hy,hz⟩
    simp only [spec_DrawIsModel.l0]
    exact Evt.neg (by omega) (Evt.bindc e3 (Evt.neg zff (Evt.ret _)))
  | succ d ih =>
   intro j hj x y z hx hy hz
   have h3:=varsP_size ys
   by_cases h0:((cntB (bytesOf (varsP ys)) (bt (⟨#[88,89,90]⟩:ByteArray) (j:Int)):Nat):Int)=0
   ·obtain ⟨g1,g2,g3⟩:=setv_size (c:=bt (⟨#[88,89,90]⟩:ByteArray) (j:Int)) hx hy hz
    obtain ⟨x',y',z',e,k⟩:=ih (j+1) (by omega) _ _ _ g1 g2 g3
    refine ⟨x',y',z',Evt.step ?_,k⟩
    simp only [spec_DrawIsModel.l0]
    rw [w64s (by omega)]
    exact Evt.pos (by omega) (Evt.pos (by omega) (Evt.bind (spec_CountByte_ev _ _ (by omega)) (Evt.pos h0 (Evt.bindc (spec_WithValue_eq x y z _ _) e))))
   ·obtain ⟨x',y',z',e,k⟩:=ih (j+1) (by omega) x y z hx hy hz
    refine ⟨x',y',z',Evt.step ?_,k⟩
    simp only [spec_DrawIsModel.l0]
    rw [w64s (by omega)]
    exact Evt.pos (by omega) (Evt.pos (by omega) (Evt.bind (spec_CountByte_ev _ _ (by omega)) (Evt.neg h0 e)))
 obtain ⟨x',y',z',e,k1,k2,k3⟩:=hl0 3 0 (by omega) x y z s1 s2 s3
 refine ⟨ys,x',y',z',?_,l2,hy,k1,k2,k3⟩
 simp only [spec_DrawIsModel.f]
 exact Evt.bind e0 (Evt.bind e1 (Evt.bind e2 (Evt.bind (spec_VarsOfProblem_ev ys (by omega) hy) e)))
theorem impl_least (all:List S32) (hn:all.length≤1000000000):∀ d i:Nat,i+d=all.length→∀ (j:Nat) (hj:j < all.length),(∀ q (hq:q < all.length),q < i→tl all[j]≤tl all[q])→∃ (m:Nat) (hm:m < all.length),Evt (fun k=>impl_LeastModel.l0 k true all (all.length:Int) (i:Int) all[j].f0 all[j].f1 all[j].f2) (all[m].f0,all[m].f1,all[m].f2,true)∧∀ q (hq:q < all.length),tl all[m]≤tl all[q]:=by
 intro d
 induction d with
 | zero =>
  intro i hi j hj hm
  refine ⟨j,hj,Evt.step ?_,fun q hq=>hm q hq (by omega)⟩
  simp only [impl_LeastModel.l0]
  exact Evt.neg (by omega) (Evt.ret _)
 | succ d ih =>
  intro i hi j hj hm
  have hi':i < all.length:=by omega
  by_cases hc:tl all[i] < tl all[j]
  ·obtain ⟨m,hm',e,k⟩:=ih (i+1) (by omega) i hi' (fun q hq hlt=>by
    by_cases h:q=i
    ·subst h;exact Int.le_refl _
    ·have:=hm q hq (by omega);omega)
   refine ⟨m,hm',Evt.step ?_,k⟩
   simp only [impl_LeastModel.l0]
   rw [vals_at all i hi',w64s (by omega)]
   exact Evt.pos (by omega) (Evt.pos (by omega) (Evt.pos (by omega) (Evt.pos (by simp) (Evt.bindc (impl_tl _) (Evt.bindc (impl_tl _) (Evt.pos hc e))))))
  ·obtain ⟨m,hm',e,k⟩:=ih (i+1) (by omega) j hj (fun q hq hlt=>by
    by_cases h:q=i
    ·subst h;omega
    ·exact hm q hq (by omega))
   refine ⟨m,hm',Evt.step ?_,k⟩
   simp only [impl_LeastModel.l0]
   rw [vals_at all i hi',w64s (by omega)]
   exact Evt.pos (by omega) (Evt.pos (by omega) (Evt.pos (by omega) (Evt.pos (by simp) (Evt.bindc (impl_tl _) (Evt.bindc (impl_tl _) (Evt.neg hc e))))))
theorem FnModels:FnModels.Pure:=by
 intro l hl
 refine Evt.get (g:=fun k=>laws_FnModels.f k l) ?_
 simp only [laws_FnModels.f]
 by_cases hbig:(l.length:Int) > 1048576
 ·exact Evt.bindc (a:=true) (by simp [laws_big.f,hbig]) (Evt.pos rfl (Evt.ret _))
 refine Evt.bindc (a:=false) (by simp only [laws_big.f];congr 1;exact decide_eq_false hbig) (Evt.neg (by decide) ?_)
 have hl':l.length≤1048576:=by omega
 obtain ⟨ps,n,e1,l7,hs⟩:=drawModels_ok l hl'
 have hps:ps.length≤1048576:=by omega
 obtain ⟨r,m1,m2,m3,m4⟩:=ModelsUpTo_mem ps hps hs n
 obtain ⟨ys,x,y,z,e2,k7,ks,kx,ky,kz⟩:=drawIsModel_ok l hl'
 have hys:ys.length≤1048576:=by omega
 have im:∀ v,Mdl ps v→Evt (fun k=>impl_IsModel.f k ps v.f0 v.f1 v.f2) true:=fun v hv=>(impl_IsModel_ev (by have:=hv.2.1;omega) (by have:=hv.2.2.1;omega) (by have:=hv.2.2.2;omega) ps hps hs).cast hv.1
 have q1:=impl_IsModel_ev (x:=x) (y:=y) (z:=z) (by omega) (by omega) (by omega) ys hys ks
 have q2:=spec_IsModel_ev (x:=x) (y:=y) (z:=z) (by omega) (by omega) (by omega) ys hys ks
 have hb:(boundP ps != boundP ps)=false:=by simp
 refine Evt.bind e1 (Evt.bind m1 (Evt.bind m2 ?_))
 by_cases h0:r.length=0
 ·have le:Evt (fun k=>impl_LeastModel.f k ps n) ((⟨#[]⟩:ByteArray),(⟨#[]⟩:ByteArray),(⟨#[]⟩:ByteArray),false):=by
   simp only [impl_LeastModel.f]
   refine Evt.bind m1 (Evt.step ?_)
   simp only [impl_LeastModel.l0]
   exact Evt.neg (by omega) (Evt.ret _)
  have fi:Evt (fun k=>impl_FirstModel.f k ps n) ((⟨#[]⟩:ByteArray),(⟨#[]⟩:ByteArray),(⟨#[]⟩:ByteArray),false):=by
   simp only [impl_FirstModel.f]
   exact Evt.bind m1 (Evt.pos (by omega) (Evt.ret _))
  refine Evt.bind le (Evt.bind fi (Evt.pos rfl (Evt.neg (by simp [h0]) (Evt.neg (by simp) (Evt.bind (impl_BoundOf_ev ps hps hs) (Evt.bind (spec_BoundOf_ev ps hps hs) ?_))))))
  rw [hb]
  refine Evt.step ?_
  simp only [laws_FnModels.j0]
  refine Evt.neg (by decide) (Evt.step ?_)
  simp only [laws_FnModels.l0]
  exact Evt.neg (by omega) (Evt.bind e2 (Evt.neg (by decide) (Evt.bind q1 (Evt.bind q2 ((Evt.ret _).cast (by simp))))))
 ·have h0':0 < r.length:=by omega
  have hz:∀ q (hq:q < r.length),q < 1→tl r[0]≤tl r[q]:=by
   intro q hq hlt
   have h0q:q=0:=by omega
   subst h0q
   exact Int.le_refl _
  obtain ⟨m,hm,le0,hmin⟩:=impl_least r m3 (r.length - 1) 1 (by omega) 0 h0' hz
  have le:Evt (fun k=>impl_LeastModel.f k ps n) (r[m].f0,r[m].f1,r[m].f2,true):=by
   simp only [impl_LeastModel.f]
   refine Evt.bind m1 (Evt.step ?_)
   simp only [impl_LeastModel.l0]
   rw [show (0:Int)=((0:Nat):Int) from rfl,vals_at r 0 h0',w64s (by omega)]
   exact Evt.pos (by omega) (Evt.pos (by omega) (Evt.pos (by omega) (Evt.neg (by decide) le0)))
  have fi:Evt (fun k=>impl_FirstModel.f k ps n) (r[0].f0,r[0].f1,r[0].f2,true):=by
   simp only [impl_FirstModel.f]
   rw [show (0:Int)=((0:Nat):Int) from rfl]
   refine Evt.bind m1 (Evt.neg (by omega) (Evt.pos (by omega) ?_))
   rw [vals_at r 0 h0']
   exact Evt.ret _
  refine Evt.bind le (Evt.bind fi (Evt.pos rfl (Evt.neg (by simp [h0']) (Evt.neg (by simp) (Evt.bind (impl_BoundOf_ev ps hps hs) (Evt.bind (spec_BoundOf_ev ps hps hs) ?_))))))
  rw [hb]
  refine Evt.step ?_
  simp only [laws_FnModels.j0]
  refine Evt.neg (by decide) ?_
  refine Evt.up (fun k i=>laws_FnModels.l0 k l r r true i ps r[m].f0 r[m].f1 r[m].f2 r[0].f0 r[0].f1 r[0].f2) r.length (fun _=>true) ?_ ?_
  ·refine Evt.step ?_
   simp only [laws_FnModels.l0]
   refine Evt.neg (by omega) (Evt.bind e2 (Evt.pos (by simp) (Evt.pos (by omega) ?_)))
   rw [show (0:Int)=((0:Nat):Int) from rfl,vals_at r 0 h0']
   exact Evt.pos (by simp) (Evt.bind (im _ (m4 _ (List.getElem_mem hm))) (Evt.pos rfl (Evt.bind q1 (Evt.bind q2 ((Evt.ret _).cast (by simp))))))
  ·intro i hi ih
   refine Evt.step ?_
   simp only [laws_FnModels.l0]
   rw [vals_at r i hi,w64s (by omega)]
   have:=hmin i hi
   exact Evt.pos (by omega) (Evt.pos (by omega) (Evt.pos (by omega) (Evt.neg (by simp) (Evt.bind (im _ (m4 _ (List.getElem_mem hi))) (Evt.pos rfl (Evt.bindc (impl_tl _) (Evt.bindc (impl_tl _) (Evt.neg (Int.not_lt.2 this) ih))))))))
end Go.Proofs.YtcbjhfoeecfcoaaGreat.Pure
namespace Go.Proofs.YtcbjhfoeecfcoaaGreat.fnModels
open Go.ChangeShapes Go.WideShapes Go.ChangeAt Go.RowKit YtcbjhfoeecfcoaaGreat.Br YtcbjhfoeecfcoaaGreatW.PrintWords YtcbjhfoeecfcoaaGreat.A
open Go.ChangeMaps (open_string shut_string)
theorem own:ownKnob Tryz.prog.godebug=none:=by kernel_rfl
theorem laidOut:laidOutB Tryz.prog=true:=by kernel_rfl
set_option maxHeartbeats 2000000 in
theorem lifted (os:Os) (started:os.Started) (H:Type) (enc:TypeId × Value→H) :
  ReturnsInHanded {} Tryz.checked os 3 .any (Rows.fnModelsSpec.pre6 enc Tryz.prog Tryz.f3 Rows.fnModelsRow.domain false) (Rows.fnModelsSpec.post enc Tryz.prog Tryz.f3 false true false false):=by
 refine returnsInHanded_of_change_sized (C:=Tryz.checked) own started (by kernel_rfl) Tryz.func3
  (ChangeSpec.witness6 (enc:=enc) (C:=Tryz.checked) false ⟨#[],#[.slice none 0 0],[]⟩ 8 (by kernel_rfl) (by kernel_rfl) (by kernel_rfl) (by kernel_rfl)) ?_
 intro W base args ds gs before hval0 hW hcnd hsz0 _
 have hval:∀ (j:Nat) t v,Tryz.f3.params[j]? = some t→args[j]? = some v→Value.okWide Tryz.prog W .any base t v:=hval0
 have hW':=hW
 obtain ⟨p,q,hA0,hV,rfl,hfz,hnd⟩:=hW
 have hA:DataW.TrodAll enc Tryz.prog W 0 (fun _=>true) true Tryz.f3.params.toList args.toList ds p:=hA0
 rw [Tryz.params3] at hA hval
 obtain ⟨v0,vs0,d0,ds0,p0,q0,hargs,rfl,rfl,h0,r0⟩:=trodAll_cons hA
 obtain ⟨rfl,rfl,rfl⟩:=trodAll_nil r0
 obtain rfl:args = #[v0]:=by cases args;simp_all
 obtain ⟨rfl,rfl⟩:=trodVars_none hV
 have k0:=h0
 have lt0:∀ x ∈ p0,x.block < W.heap.size:=by obtain ⟨m,hm⟩:=k0;exact DataW.trod_lt m _ _ _ hm
 obtain ⟨aa0,len0,cap0,rfl⟩:=okWide_slice Tryz.underlying22 (hval 0 22 v0 rfl rfl)
 obtain ⟨fuel0,hf0⟩:=h0
 obtain ⟨l0,⟨A0,c0,hcs0,hc0,hr0⟩,w0⟩:=(show ∀ n,BrN Tryz.prog n 22 _ _ from fun n=>(br_slice' Tryz.underlying22 (show Tryz.prog.cellsOf 5=1 by kernel_rfl) (fun n=>(br_int Tryz.underlying5 n)) n)) fuel0 H enc W 0 (fun _=>true) true fuel0 _ _ (Nat.le_refl _) hf0
 obtain ⟨rfl,rfl,rfl⟩:aa0=A0∧len0=l0.length∧cap0=c0:=by simpa [Value.cells] using hcs0
 clear hA0 hval0 hsz0
 obtain ⟨k,hp⟩:=Pure.FnModels l0 w0
 refine (laws_FnModels.calls k _ _ l0 true W hr0 hc0 hp rfl).mono fun e W' ⟨he,bel0⟩ => ?_
 subst he
 have bel:Below W.heap.size W W':=bel0
 exact ⟨_,rfl,_,_,_,[],_,[],hW',trodAll_mk1 (shut_bool Tryz.underlying4 _),(trodAll_cons_mk (Below.trod laidOut (by kernel_rfl) (of_decide_eq_true (by kernel_rfl)) k0 bel lt0) trodAll_mk0),rfl,bel.frame _,fun h=>by cases h⟩
theorem fact0:(Rows.fnModelsRow.inPlace == Tryz.pinned.checked.prog.inPlace 3)=true:=by kernel_rfl
theorem fact1:(Rows.fnModelsRow.unfollowed == Tryz.pinned.checked.prog.unfollowed 3)=true:=by kernel_rfl
theorem fact2:(Rows.fnModelsRow.recurses == Tryz.pinned.checked.prog.recurses 3)=true:=by kernel_rfl
theorem fact3:(Rows.fnModelsRow.named == Tryz.pinned.checked.prog.varsNamed 3)=true:=by kernel_rfl
theorem facts:joinedFacts Tryz.pinned.checked.prog 3 Tryz.f3 Rows.fnModelsSpec Rows.fnModelsRow=true:=by
 unfold joinedFacts
 rw [fact0,fact1,fact2,fact3]
 kernel_rfl
theorem known:Tryz.pinned.checked.prog.funcNamed Rows.fnModelsRow.func=some 3:=by kernel_rfl
theorem inst:Tryz.f3.isInstance Tryz.pinned.checked.prog Rows.fnModelsRow.origin Rows.fnModelsRow.targs:=of_decide_eq_true (by kernel_rfl)
theorem wrap:Tryz.f3.isWrapper Tryz.pinned.checked.prog Rows.fnModelsRow.wrapper Rows.fnModelsRow.mainSum:=by unfold Func.isWrapper;first|(rw [if_pos (by decide +kernel)];kernel_rfl)|(rw [if_neg (by decide +kernel)];exact ⟨rfl,rfl⟩)
theorem over:Rows.fnModelsRow.holds Tryz.pinned (OpenSpec.ofChange Rows.fnModelsSpec) :=
 OpenClaim.holds_of_wide 3 Tryz.f3 rfl rfl rfl rfl rfl rfl rfl ⟨rfl,rfl,rfl,rfl,rfl⟩ rfl rfl rfl rfl rfl known Tryz.func3 facts inst wrap
  (fun os started H enc _=>lifted os started H enc)
theorem proved:Rows.FnModelsSaid:=over
#print axioms proved
end Go.Proofs.YtcbjhfoeecfcoaaGreat.fnModels
namespace Go.Proofs.YtcbjhfoeecfcoaaGreat
theorem fnModels_holds:Rows.FnModelsSaid:=fnModels.proved
end Go.Proofs.YtcbjhfoeecfcoaaGreat
