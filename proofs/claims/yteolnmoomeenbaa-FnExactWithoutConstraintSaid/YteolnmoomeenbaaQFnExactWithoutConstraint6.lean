/- FnExactWithoutConstraint: what its proof needs, put together by this session's program wip/merge.py out of the texts that wip/xp.py printed and of this session's own. -/
import Derived.Test.YteolnmoomeenbaaQFnExactWithoutConstraint5
import Derived.Test.YteolnmoomeenbaaRows
import Derived.WalkKit
import Derived.ProofKit
import Derived.OpenShut
import Derived.ShutString
import Derived.ChangeOld
import Derived.Below
import Derived.SizedLaws
import Derived.Lib.SmallJoins
set_option linter.unusedVariables false
set_option linter.unusedSimpArgs false
set_option linter.unusedSectionVars false
set_option maxHeartbeats 8000000
set_option maxRecDepth 100000
namespace Go.Proofs.Yteolnmoomeenbaa.F
open Go Go.RowKit YteolnmoomeenbaaW.PrintWords Yteolnmoomeenbaa.Pl Yteolnmoomeenbaa.A Yteolnmoomeenbaa.Ext
def MtOk (mt:Int→ByteArray):Prop:=∀ q:Int,0≤q→q≤4611686018427387904→Evt (fun k=>laws_markText.f k q) (mt q)
theorem held_ints (l:List Int) (a:Int) (h0:0≤a) (h1:a+l.length≤4611686018427387904):Evt (fun k=>laws_heldIntS.f k (soFarI a l l.length) a) (a+l.length):=by
 have hl:(soFarI a l l.length).length=l.length:=soFarI_len a l _ (Nat.le_refl _)
 have hg:∀ i:Nat,i < l.length→rd (soFarI a l l.length) (i:Int)=a+(i:Int):=by
  intro i hi
  unfold rd soFarI
  rw [Int.toNat_natCast,List.drop_of_length_le (Nat.le_refl _),List.append_nil,List.getD_eq_getElem?_getD,List.getElem?_map,List.getElem?_range hi]
  rfl
 have h:∀ d i:Nat,i+d=l.length→Evt (fun k=>laws_heldIntS.l0 k (soFarI a l l.length) (a+(i:Int)) (i:Int)) (a+l.length):=by
  intro d
  induction d with
  | zero =>
   intro i hi
   refine Evt.step ?_
   simp only [laws_heldIntS.l0]
   exact Evt.neg (by omega) ((Evt.ret _).cast (by omega))
  | succ d ih =>
   intro i hi
   refine Evt.step ?_
   simp only [laws_heldIntS.l0]
   rw [hg i (by omega),w64s (by omega),w64 (x:=a+(i:Int)+1) (by omega) (by omega),show a+(i:Int)+1=a+((i+1:Nat):Int) by omega]
   exact Evt.pos (by omega) (Evt.pos (by omega) (Evt.pos rfl (ih (i+1) (by omega))))
 have:=h l.length 0 (by omega)
 simpa [laws_heldIntS.f] using this
theorem mkL_at (mt:Int→ByteArray) (f:Int→List S43→List S43) (cnt:List S43→Nat):∀ (xs:List S43) (a:Int) (i:Nat) (h:i < xs.length),(mkL mt f cnt a xs)[i]? = some ⟨a+(((xs.take i).map fun x=>2+cnt x.f2).sum:Nat),mt (a+(((xs.take i).map fun x=>2+cnt x.f2).sum:Nat)+1),f (a+(((xs.take i).map fun x=>2+cnt x.f2).sum:Nat)+2) xs[i].f2⟩
 | [],_,_,h=>absurd h (Nat.not_lt_zero _)
 | x :: xs,a,0,_=>by simp [mkL]
 | x :: xs,a,i+1,h=>by
  rw [mkL,List.getElem?_cons_succ,mkL_at mt f cnt xs _ i (by simpa using h),List.take_succ_cons,List.map_cons,List.sum_cons]
  have e:a+((2+cnt x.f2:Nat):Int)+(((xs.take i).map fun x=>2+cnt x.f2).sum:Nat)=a+((2+cnt x.f2+((xs.take i).map fun x=>2+cnt x.f2).sum:Nat):Int):=by omega
  rw [e]
  rfl
theorem held_rx (mt:Int→ByteArray) (hm:MtOk mt):∀ (d:Nat) (xs:List S43) (a:Int),xs.all (htB d)=true→0≤a→a+(cntR d xs:Nat)≤4611686018427387904→Evt (fun k=>laws_heldRegexS.f k (mkR mt d a xs) a) (a+(cntR d xs:Nat)):=by
 intro d
 induction d with
 | zero =>
  intro xs a hh h0 h1
  have hx:xs = []:=by
   cases xs with
   | nil=>rfl
   | cons x xs=>simp [htB] at hh
  subst hx
  refine Evt.step ?_
  simp only [laws_heldRegexS.f,mkR]
  refine Evt.step ?_
  simp only [laws_heldRegexS.l0]
  exact Evt.neg (by simp) ((Evt.ret _).cast (by simp [cntR]))
 | succ d ih =>
  intro xs a hh h0 h1
  have hl:(mkR mt (d+1) a xs).length=xs.length:=by rw [mkR,mkL_len]
  have hlen:=cntR_len d xs
  have h:∀ m i:Nat,i+m=xs.length→Evt (fun k=>laws_heldRegexS.l0 k (mkR mt (d+1) a xs) (a+(cntR (d+1) (xs.take i):Nat)) (i:Int)) (a+(cntR (d+1) xs:Nat)):=by
   intro m
   induction m with
   | zero =>
    intro i hi
    refine Evt.step ?_
    simp only [laws_heldRegexS.l0]
    rw [List.take_of_length_le (by omega)]
    exact Evt.neg (by omega) (Evt.ret _)
   | succ m ihm =>
    intro i hi
    have hix:i < xs.length:=by omega
    have hle:=cntR_le d xs i hix
    have hsu:=cntR_succ d xs i hix
    have hat:rd_T43 (mkR mt (d+1) a xs) (i:Int)=⟨a+(cntR (d+1) (xs.take i):Nat),mt (a+(cntR (d+1) (xs.take i):Nat)+1),mkR mt d (a+(cntR (d+1) (xs.take i):Nat)+2) xs[i].f2⟩:=by
     unfold rd_T43
     rw [Int.toNat_natCast,List.getD_eq_getElem?_getD,mkR,mkL_at mt _ _ xs a i hix]
     rfl
    have hn:=ihm (i+1) (by omega)
    rw [hsu] at hn
    generalize hq:a+(cntR (d+1) (xs.take i):Nat)=q at hat
    have hhx:=List.all_eq_true.1 hh _ (List.getElem_mem hix)
    have hs:=ih xs[i].f2 (q+2) hhx (by omega) (by omega)
    refine Evt.step ?_
    simp only [laws_heldRegexS.l0]
    rw [hat,w64 (x:=q+1) (by omega) (by omega),w64 (x:=q+1+1) (by omega) (by omega),show q+1+1=q+2 by omega,w64s (by omega)]
    refine Evt.pos (by omega) (Evt.pos (by omega) (Evt.pos rfl (Evt.bind (hm (q+1) (by omega) (by omega)) (Evt.pos rfl (Evt.bind hs (Evt.neg (by omega) ?_))))))
    rw [show a+((cntR (d+1) (xs.take i)+(2+cntR d xs[i].f2):Nat):Int)=q+2+(cntR d xs[i].f2:Nat) by omega] at hn
    exact hn
  have h2:=h xs.length 0 (by omega)
  refine Evt.step ?_
  simp only [laws_heldRegexS.f]
  exact h2.cast rfl |> fun e=>by simpa [cntR] using e
theorem mkCs_at (mt:Int→ByteArray) (d:Nat):∀ (xs:List S46) (a:Int) (i:Nat) (h:i < xs.length),(mkCs mt d a xs)[i]? = some (mkC mt d (a+(cntC d (xs.take i):Nat)) xs[i])
 | [],_,_,h=>absurd h (Nat.not_lt_zero _)
 | x :: xs,a,0,_=>by simp [mkCs,cntC]
 | x :: xs,a,i+1,h=>by
  rw [mkCs,List.getElem?_cons_succ,mkCs_at mt d xs _ i (by simpa using h),List.take_succ_cons]
  have e:a+((6+cntR d x.f3.f2+x.f4.length:Nat):Int)+(cntC d (xs.take i):Nat)=a+(cntC d (x :: xs.take i):Nat):=by simp only [cntC,List.map_cons,List.sum_cons];omega
  rw [e]
  rfl
theorem held_cons (mt:Int→ByteArray) (hm:MtOk mt) (d:Nat) (xs:List S46) (a:Int) (hh:(xs.all fun y=>y.f3.f2.all (htB d))=true) (h0:0≤a) (h1:a+(cntC d xs:Nat)≤4611686018427387904):Evt (fun k=>laws_heldConstraintS.f k (mkCs mt d a xs) a) (a+(cntC d xs:Nat)):=by
 have hl:(mkCs mt d a xs).length=xs.length:=mkCs_len mt d xs a
 have hlen:=cntC_len d xs
 have h:∀ m i:Nat,i+m=xs.length→Evt (fun k=>laws_heldConstraintS.l0 k (mkCs mt d a xs) (a+(cntC d (xs.take i):Nat)) (i:Int)) (a+(cntC d xs:Nat)):=by
  intro m
  induction m with
  | zero =>
   intro i hi
   refine Evt.step ?_
   simp only [laws_heldConstraintS.l0]
   rw [List.take_of_length_le (by omega)]
   exact Evt.neg (by omega) (Evt.ret _)
  | succ m ihm =>
   intro i hi
   have hix:i < xs.length:=by omega
   have hle:=cntC_le d xs i hix
   have hsu:=cntC_succ d xs i hix
   have hat:rd_T46 (mkCs mt d a xs) (i:Int)=mkC mt d (a+(cntC d (xs.take i):Nat)) xs[i]:=by
    unfold rd_T46
    rw [Int.toNat_natCast,List.getD_eq_getElem?_getD,mkCs_at mt d xs a i hix]
    rfl
   have hn:=ihm (i+1) (by omega)
   rw [hsu] at hn
   generalize hq:a+(cntC d (xs.take i):Nat)=q at hat
   have hhx:=List.all_eq_true.1 hh _ (List.getElem_mem hix)
   have hs:=held_rx mt hm d xs[i].f3.f2 (q+5) hhx (by omega) (by omega)
   have hi2:=held_ints xs[i].f4 (q+5+(cntR d xs[i].f3.f2:Nat)) (by omega) (by omega)
   refine Evt.step ?_
   simp only [laws_heldConstraintS.l0]
   rw [hat,w64 (x:=q+1) (by omega) (by omega),w64 (x:=q+1+1) (by omega) (by omega),w64 (x:=q+1+1+1) (by omega) (by omega),w64 (x:=q+1+1+1+1) (by omega) (by omega),w64 (x:=q+1+1+1+1+1) (by omega) (by omega),show q+1+1+1+1+1=q+5 by omega,show q+1+1+1+1=q+4 by omega,show q+1+1+1=q+3 by omega,show q+1+1=q+2 by omega,w64s (by omega)]
   refine Evt.pos (by omega) (Evt.pos (by omega) (Evt.pos rfl (Evt.bind (hm (q+1) (by omega) (by omega)) (Evt.pos rfl (Evt.bind (hm (q+2) (by omega) (by omega)) (Evt.pos rfl (Evt.pos rfl (Evt.bind (hm (q+4) (by omega) (by omega)) (Evt.pos rfl (Evt.bind hs (Evt.neg (by omega) (Evt.bind hi2 (Evt.neg (by omega) (Evt.pos rfl ?_))))))))))))))
   rw [w64 (by omega) (by omega),show q+5+(cntR d xs[i].f3.f2:Nat)+(xs[i].f4.length:Nat)+1=a+((cntC d (xs.take i)+(6+cntR d xs[i].f3.f2+xs[i].f4.length):Nat):Int) by omega]
   exact hn
 have h2:=h xs.length 0 (by omega)
 simpa [laws_heldConstraintS.f,cntC] using h2
theorem held_prob (mt:Int→ByteArray) (hm:MtOk mt) (d:Nat) (xs:List S46) (hh:(xs.all fun y=>y.f3.f2.all (htB d))=true) (h1:1+(cntC d xs:Nat)≤4611686018427387904):Evt (fun k=>laws_heldProblem.f k (mkCs mt d 1 xs) 1) ((1:Int)+(cntC d xs:Nat)):=by
 simp only [laws_heldProblem.f]
 exact Evt.bind (held_cons mt hm d xs 1 hh (by omega) (by omega)) (Evt.neg (by omega) (Evt.ret _))
theorem ev_up {α:Type} {g:Nat→Option α} {r:α} (hm:∀ k,LeO (g k) (g (k+1))) {K:Nat} (h:g K=some r):Evt g r:=by
 refine ⟨K,fun k hk=>?_⟩
 obtain ⟨d,rfl⟩:∃ d,k=K+d:=⟨k - K,by omega⟩
 clear hk
 induction d with
 | zero=>exact h
 | succ d ih=>exact hm _ r ih
theorem mtx_ev:MtOk mtx:=fun q h0 h1=>by
 obtain ⟨k,e⟩:=mtx_ok q h0 h1
 exact ev_up (fun k=>laws_markText.mono q k) e
theorem held_m (l:List S46) (r:Int) (h:laws_markProblem.f l 1=some r):0≤r∧Evt (fun k=>laws_heldProblem.f k (laws_markProblem.m l 1) 1) r:=by
 unfold laws_markProblem.f at h
 split at h
 ·next hc =>
  obtain rfl:=zi h
  exact ⟨by omega,held_prob mtx mtx_ev (Dm l) l hc.2.2 (by have:=hc.2.1;omega)⟩
 ·exact absurd h (by simp)
end Go.Proofs.Yteolnmoomeenbaa.F
namespace Go.Proofs.Yteolnmoomeenbaa.F
open Go.RowKit YteolnmoomeenbaaW.PrintWords Yteolnmoomeenbaa.Pl Yteolnmoomeenbaa.A Yteolnmoomeenbaa.Ext
theorem spec_LetterIndex_ev (c:Int):Evt (fun k=>spec_LetterIndex.f k c) (ltI c):=by
 refine ⟨4,fun k hk=>?_⟩
 obtain ⟨m,rfl⟩:∃ m,k=m+4:=⟨k - 4,by omega⟩
 unfold ltI
 by_cases h0:(97:Int)=c
 ·simp [spec_LetterIndex.f,spec_LetterIndex.l0,w64_a,w64_b,w64_c,bt_abc0,bt_abc1,bt_abc2,h0]
 ·by_cases h1:(98:Int)=c
  ·simp [spec_LetterIndex.f,spec_LetterIndex.l0,w64_a,w64_b,w64_c,bt_abc0,bt_abc1,bt_abc2,h0,h1]
  ·by_cases h2:(99:Int)=c
   ·simp [spec_LetterIndex.f,spec_LetterIndex.l0,w64_a,w64_b,w64_c,bt_abc0,bt_abc1,bt_abc2,h0,h1,h2]
   ·simp [spec_LetterIndex.f,spec_LetterIndex.l0,w64_a,w64_b,w64_c,bt_abc0,bt_abc1,bt_abc2,h0,h1,h2]
theorem impl_LetterIndex_eq {c:Int} (h0:0≤c) (h1:c≤255):impl_LetterIndex.f c=some (ltI c):=by
 obtain ⟨n,rfl⟩:=Int.eq_ofNat_of_zero_le h0
 simp only [impl_LetterIndex.f,strings_IndexByte.f,Option.bind_some]
 rw [Int.toNat_natCast]
 exact congrArg some (ix_abc n (by omega))
def allL (l:List Int):Bool:=l.all fun c=>decide (0≤ltI c)
theorem impl_isLetters_ev (s:ByteArray) (hs:s.size≤9223372036854775807):Evt (fun k=>impl_isLetters.f k s) (allL (bytesOf s)):=by
 have h:=Evt.up (fun k i=>impl_isLetters.l0 k s i) s.size (fun i=>allL ((bytesOf s).drop i)) ?_ ?_
 ·simpa [impl_isLetters.f] using h
 ·refine Evt.step ?_
  simp only [impl_isLetters.l0]
  rw [List.drop_of_length_le (by rw [bytesOf_length];omega)]
  exact Evt.neg (by omega) (Evt.ret _)
 ·intro i hi h
  refine Evt.step ?_
  simp only [impl_isLetters.l0]
  refine Evt.pos (by omega) (Evt.pos (by omega) (Evt.bindc (impl_LetterIndex_eq (bt0 _ _) (bt255 _ _)) ?_))
  have hl:i < (bytesOf s).length:=by rw [bytesOf_length];exact hi
  rw [List.drop_eq_getElem_cons hl,← bt_get s i hl]
  by_cases hc:ltI (bt s i) < 0
  ·exact Evt.pos hc (Evt.const (by simp [allL,show ¬ (0≤ltI (bt s i)) by omega]))
  ·rw [w64s (by omega)]
   exact Evt.neg hc (h.cast (by simp [allL,show 0≤ltI (bt s i) by omega]))
def isW (s:ByteArray):Bool:=allL (bytesOf s) && decide (s.size≤30)
theorem impl_IsWord_ev (s:ByteArray) (hs:s.size≤9223372036854775807):Evt (fun k=>impl_IsWord.f k s) (isW s):=by
 unfold isW
 simp only [impl_IsWord.f]
 by_cases h:s.size≤30
 ·exact Evt.pos (by omega) (Evt.bind (impl_isLetters_ev s hs) (Evt.const (by simp [h])))
 ·exact Evt.neg (by omega) (Evt.const (by simp [h]))
theorem spec_IsWord_ev (s:ByteArray) (hs:s.size≤9223372036854775807):Evt (fun k=>spec_IsWord.f k s) (isW s):=by
 have h:=Evt.up (fun k i=>spec_IsWord.l0 k s i) s.size (fun i=>allL ((bytesOf s).drop i) && decide (s.size≤30)) ?_ ?_
 ·simpa [spec_IsWord.f,isW] using h
 ·refine Evt.step ?_
  simp only [spec_IsWord.l0]
  rw [List.drop_of_length_le (by rw [bytesOf_length];omega)]
  refine Evt.neg (by omega) (Evt.const ?_)
  have e:((s.size:Int)≤30)=(s.size≤30):=by apply propext;omega
  simp [allL,e]
 ·intro i hi h
  refine Evt.step ?_
  simp only [spec_IsWord.l0]
  refine Evt.pos (by omega) (Evt.pos (by omega) (Evt.bind (spec_LetterIndex_ev _) ?_))
  have hl:i < (bytesOf s).length:=by rw [bytesOf_length];exact hi
  rw [List.drop_eq_getElem_cons hl,← bt_get s i hl]
  by_cases hc:ltI (bt s i) < 0
  ·exact Evt.pos hc (Evt.const (by simp [allL,show ¬ (0≤ltI (bt s i)) by omega]))
  ·rw [w64s (by omega)]
   exact Evt.neg hc (h.cast (by simp [allL,show 0≤ltI (bt s i) by omega]))
def arN (a:Int):Nat:=if a=5∨a=6∨a=7 then 2 else if a=8∨a=9 then 1 else 0
theorem arN_le (a:Int):arN a≤2:=by
 unfold arN
 split
 ·omega
 ·split <;> omega
def kOk (a:Int) (b:ByteArray) (n:Nat):Bool :=
 if a=3 then decide (b.size=1) && isW b && decide (n=0) else decide (1≤a∧a≤9) && decide (b.size=0) && decide (n=arN a)
theorem kOk_len {a:Int} {b:ByteArray} {n:Nat} (h:kOk a b n=true):n=arN a:=by
 unfold kOk at h
 split at h
 ·next e=>subst e;simp at h;simp [h.2,arN]
 ·simp at h;exact h.2
def nds:Nat→S43→Nat
 | 0,_=>17
 | n+1,x=>if kOk x.f0 x.f1 x.f2.length=true then min (1+(x.f2.map (nds n)).sum) 17 else 17
theorem nds_le (n:Nat) (x:S43):nds n x≤17:=by
 cases n with
 | zero=>exact Nat.le_refl _
 | succ n=>unfold nds;split <;> omega
def Ht:Nat→S43→Prop
 | 0,_=>False
 | n+1,x=>x.f2.length≤1048576∧∀ a ∈ x.f2,Ht n a
theorem Ht_mono:∀ n (x:S43),Ht n x→Ht (n+1) x:=by
 intro n
 induction n with
 | zero=>intro x h;exact h.elim
 | succ n ih=>intro x h;exact ⟨h.1,fun a ha=>ih a (h.2 a ha)⟩
theorem Ht_le {n m:Nat} (h:n≤m) (x:S43) (hx:Ht n x):Ht m x:=by
 induction h with
 | refl=>exact hx
 | step _ ih=>exact Ht_mono _ _ ih
theorem Sm.ht {x:S43} (h:Sm x):∃ n,Ht n x:=by
 induction h with
 | mk a b l hl hs hb ih =>
  have h3:∃ n,∀ a ∈ l,Ht n a:=by
   clear hl hs hb
   induction l with
   | nil=>exact ⟨0,fun a ha=>by cases ha⟩
   | cons x l ihl =>
    obtain ⟨n,hn⟩:=ihl (fun a ha=>ih a (List.mem_cons_of_mem _ ha))
    obtain ⟨m,hm⟩:=ih x (List.mem_cons_self ..)
    refine ⟨max n m,fun a ha=>?_⟩
    rcases List.mem_cons.1 ha with rfl|ha
    ·exact Ht_le (by omega) _ hm
    ·exact Ht_le (by omega) _ (hn a ha)
  obtain ⟨n,hn⟩:=h3
  exact ⟨n+1,hl,hn⟩
def siz:Nat→S43→Nat
 | 0,_=>1
 | n+1,x=>1+(x.f2.map (siz n)).sum
def dep:Nat→S43→Nat
 | 0,_=>1
 | n+1,x=>(x.f2.map (dep n)).foldr max 0+1
def alls:Nat→S43→Bool
 | 0,_=>true
 | n+1,x=>(x.f2.all (alls n)) && kOk x.f0 x.f1 x.f2.length
theorem siz_pos (n:Nat) (x:S43):1≤siz n x:=by cases n <;> simp [siz]
theorem dep_pos (n:Nat) (x:S43):1≤dep n x:=by cases n <;> simp [dep]
theorem dep_le_siz (n:Nat):∀ x:S43,dep n x≤siz n x:=by
 induction n with
 | zero=>intro x;simp [dep,siz]
 | succ n ih =>
  intro x
  simp only [dep,siz]
  generalize x.f2=l
  induction l with
  | nil=>simp
  | cons y l ihl=>simp only [List.map_cons,List.foldr_cons,List.sum_cons];have:=ih y;omega
theorem nds_eq (n:Nat):∀ (x:S43) (e:Nat),Ht n x→nds e x=if alls n x=true∧dep n x≤e∧siz n x≤16 then siz n x else 17:=by
 induction n with
 | zero=>intro x e h;exact h.elim
 | succ n ih =>
  intro x e h
  cases e with
  | zero =>
   have:=dep_pos (n+1) x
   rw [if_neg (by omega)]
   rfl
  | succ e =>
   unfold nds
   by_cases hk:kOk x.f0 x.f1 x.f2.length=true
   ·rw [if_pos hk]
    have hl:=kOk_len hk
    have h2:=arN_le x.f0
    obtain ⟨_,hm⟩:=h
    simp only [alls,dep,siz,hk,Bool.and_true]
    generalize x.f2=l at *
    match l with
    | []=>simp
    | [p] =>
     have ip:=ih p e (hm p (by simp))
     have hp:=siz_pos n p
     have hq:=dep_pos n p
     simp only [List.map_cons,List.map_nil,List.sum_cons,List.sum_nil,List.foldr_cons,List.foldr_nil,List.all_cons,List.all_nil,Bool.and_true,ip]
     by_cases c1:alls n p=true <;> by_cases c2:dep n p≤e <;> by_cases c3:siz n p≤16 <;> simp only [c1,c2,c3,true_and,false_and,and_true,and_false,if_true,if_false,Bool.false_eq_true] <;> first|omega|(split <;> omega)
    | [p,q] =>
     have ip:=ih p e (hm p (by simp))
     have iq:=ih q e (hm q (by simp))
     have hp:=siz_pos n p
     have hq:=siz_pos n q
     have hp':=dep_pos n p
     have hq':=dep_pos n q
     simp only [List.map_cons,List.map_nil,List.sum_cons,List.sum_nil,List.foldr_cons,List.foldr_nil,List.all_cons,List.all_nil,Bool.and_true,ip,iq,Bool.and_eq_true]
     by_cases c1:alls n p=true <;> by_cases c2:dep n p≤e <;> by_cases c3:siz n p≤16 <;> by_cases c1':alls n q=true <;> by_cases c2':dep n q≤e <;> by_cases c3':siz n q≤16 <;> simp only [c1,c2,c3,c1',c2',c3',true_and,false_and,and_true,and_false,if_true,if_false,Bool.false_eq_true] <;> first|omega|(split <;> omega)
    | p :: q :: r :: l=>simp at hl;omega
   ·rw [if_neg hk,if_neg]
    simp [alls,hk]
theorem impl_isVariable_eq {c:Int} (h0:0≤c) (h1:c≤255):impl_isVariable.f c=some (isVr c):=by
 obtain ⟨n,rfl⟩:=Int.eq_ofNat_of_zero_le h0
 simp only [impl_isVariable.f,strings_IndexByte.f,Option.bind_some]
 rw [Int.toNat_natCast,← varI_isVar,← ix_XYZ n (by omega)]
theorem spec_l8Var_eq (c:Int):spec_l8Var.f c=some (isVr c):=by
 unfold spec_l8Var.f isVr
 by_cases h:c ≥ 88
 ·rw [if_pos h];simp [show 88≤c from h]
 ·rw [if_neg h];simp [show ¬ 88≤c from h]
def isT (c:Int):Bool:=decide (0≤ltI c) || isVr c
def isTm (s:ByteArray):Bool:=(bytesOf s).all isT && decide (s.size≤12)
theorem spec_IsTerm_ev (s:ByteArray) (hs:s.size≤9223372036854775807):Evt (fun k=>spec_IsTerm.f k s) (isTm s):=by
 have h:=Evt.up (fun k i=>spec_IsTerm.l0 k s i) s.size (fun i=>((bytesOf s).drop i).all isT && decide (s.size≤12)) ?_ ?_
 ·simpa [spec_IsTerm.f,isTm] using h
 ·refine Evt.step ?_
  simp only [spec_IsTerm.l0]
  rw [List.drop_of_length_le (by rw [bytesOf_length];omega)]
  refine Evt.neg (by omega) (Evt.const ?_)
  have e:((s.size:Int)≤12)=(s.size≤12):=by apply propext;omega
  simp [e]
 ·intro i hi h
  refine Evt.step ?_
  simp only [spec_IsTerm.l0]
  refine Evt.pos (by omega) (Evt.pos (by omega) (Evt.bind (spec_LetterIndex_ev _) ?_))
  have hl:i < (bytesOf s).length:=by rw [bytesOf_length];exact hi
  rw [List.drop_eq_getElem_cons hl,← bt_get s i hl,w64s (by omega)]
  by_cases hc:ltI (bt s i) < 0
  ·refine Evt.pos hc (Evt.bindc (spec_l8Var_eq _) ?_)
   by_cases hv:isVr (bt s i)=true
   ·exact Evt.pos hv (h.cast (by simp [isT,hv]))
   ·exact Evt.neg hv (Evt.const (by simp [isT,hv,show ¬ (0≤ltI (bt s i)) by omega]))
  ·exact Evt.neg hc (h.cast (by simp [isT,show 0≤ltI (bt s i) by omega]))
theorem impl_IsTerm_ev (s:ByteArray):Evt (fun k=>impl_IsTerm.f k s) (isTm s):=by
 simp only [impl_IsTerm.f]
 by_cases h12:(s.size:Int) > 12
 ·exact Evt.pos h12 (Evt.const (by simp [isTm,show ¬ s.size≤12 by omega]))
 refine Evt.neg h12 ?_
 have h:=Evt.up (fun k i=>impl_IsTerm.l0 k s i) s.size (fun i=>((bytesOf s).drop i).all isT) ?_ ?_
 ·exact h.cast (by simp [isTm,show s.size≤12 by omega])
 ·refine Evt.step ?_
  simp only [impl_IsTerm.l0]
  rw [List.drop_of_length_le (by rw [bytesOf_length];omega)]
  exact Evt.neg (by omega) (Evt.ret _)
 ·intro i hi h
  refine Evt.step ?_
  simp only [impl_IsTerm.l0]
  refine Evt.pos (by omega) (Evt.pos (by omega) (Evt.bindc (impl_LetterIndex_eq (bt0 _ _) (bt255 _ _)) ?_))
  have hl:i < (bytesOf s).length:=by rw [bytesOf_length];exact hi
  rw [List.drop_eq_getElem_cons hl,← bt_get s i hl,w64s (by omega)]
  by_cases hc:ltI (bt s i) < 0
  ·refine Evt.pos hc (Evt.bindc (impl_isVariable_eq (bt0 _ _) (bt255 _ _)) ?_)
   by_cases hv:isVr (bt s i)=true
   ·exact Evt.pos hv (h.cast (by simp [isT,hv]))
   ·exact Evt.neg hv (Evt.const (by simp [isT,hv,show ¬ (0≤ltI (bt s i)) by omega]))
  ·exact Evt.neg hc (h.cast (by simp [isT,show 0≤ltI (bt s i) by omega]))
theorem impl_argsOf_ev (a:Int):Evt (fun k=>impl_argsOf.f k a) (if 1≤a∧a≤9 then (arN a:Int) else -1):=by
 refine ⟨3,fun k hk=>?_⟩
 obtain ⟨m,rfl⟩:∃ m,k=m+3:=⟨k - 3,by omega⟩
 have h:a=1∨a=2∨a=3∨a=4∨a=5∨a=6∨a=7∨a=8∨a=9∨¬ (1≤a∧a≤9):=by omega
 rcases h with rfl|rfl|rfl|rfl|rfl|rfl|rfl|rfl|rfl|h
 all_goals first
  | simp [impl_argsOf.f,impl_argsOf.j0,impl_argsOf.j1,arN,-Int.reduceNeg];done
  | skip
 rw [if_neg h]
 have e:∀ c:Int,1≤c→c≤9→¬ a=c:=fun c h1 h2 h3=>h (by omega)
 have eb:∀ c:Int,1≤c→c≤9→(a == c)=false:=fun c h1 h2=>by simpa using e c h1 h2
 simp [impl_argsOf.f,impl_argsOf.j0,impl_argsOf.j1,e 1,e 2,e 3,e 4,e 5,e 6,e 7,e 8,e 9,eb 4,eb 9]
theorem impl_nodesOf_j0t (v a:Int) (b:ByteArray) (l:List S43):Evt (fun k=>impl_nodesOf.j0 k v true a b l) 17:=by
 refine Evt.step ?_
 simp only [impl_nodesOf.j0]
 exact Evt.pos trivial (Evt.ret _)
theorem impl_nodesOf_l0 (n:Nat) (hn:n≤6) (l:List S43) (hl:l.length≤2) (ih:∀ x ∈ l,Evt (fun k=>impl_nodesOf.f k x.f0 x.f1 x.f2 (n:Int)) ((nds n x:Nat):Int)) :
  ∀ d i acc:Nat,i+d=l.length→acc≤1+17 * i→Evt (fun k=>impl_nodesOf.l0 k ((n+1:Nat):Int) (acc:Int) l (l.length:Int) (i:Int)) ((min (acc+((l.drop i).map (nds n)).sum) 17:Nat):Int):=by
 intro d
 induction d with
 | zero =>
  intro i acc hi ha
  refine Evt.step ?_
  simp only [impl_nodesOf.l0]
  refine Evt.neg (by omega) ((Evt.ret _).cast ?_)
  rw [List.drop_of_length_le (by omega)]
  simp only [mn,List.map_nil,List.sum_nil,Nat.add_zero]
  split <;> omega
 | succ d ihd =>
  intro i acc hi ha
  have hi':i < l.length:=by omega
  have hx:=nds_le n l[i]
  refine Evt.step ?_
  simp only [impl_nodesOf.l0]
  rw [rxI_at l i hi',w64s (by omega),w64 (x:=((n+1:Nat):Int) - 1) (by omega) (by omega),show ((n+1:Nat):Int) - 1=(n:Int) by omega]
  refine Evt.pos (by omega) (Evt.pos (by omega) (Evt.pos (by omega) (Evt.bind (ih _ (List.getElem_mem hi')) ?_)))
  rw [w64 (by omega) (by omega),show (acc:Int)+((nds n l[i]:Nat):Int)=((acc+nds n l[i]:Nat):Int) by omega]
  refine (ihd (i+1) (acc+nds n l[i]) (by omega) (by omega)).cast ?_
  rw [List.drop_eq_getElem_cons hi',List.map_cons,List.sum_cons,Nat.add_assoc]
theorem impl_nodesOf_ev (n:Nat):n≤6→∀ x:S43,Evt (fun k=>impl_nodesOf.f k x.f0 x.f1 x.f2 (n:Int)) ((nds n x:Nat):Int):=by
 induction n with
 | zero =>
  intro _ x
  refine Evt.step ?_
  simp only [impl_nodesOf.f]
  exact Evt.pos (by omega) ((impl_nodesOf_j0t _ _ _ _).cast (by simp [nds]))
 | succ n ih =>
  intro hn x
  refine Evt.step ?_
  simp only [impl_nodesOf.f]
  refine Evt.neg (by omega) (Evt.bind (impl_argsOf_ev _) ?_)
  unfold nds
  by_cases hlen:(x.f2.length:Int)=(if 1≤x.f0∧x.f0≤9 then (arN x.f0:Int) else -1)
  ·have e:((x.f2.length:Int) != (if 1≤x.f0∧x.f0≤9 then (arN x.f0:Int) else -1))=false:=by simp [hlen]
   rw [e]
   have hr:1≤x.f0∧x.f0≤9:=by
    by_cases hr:1≤x.f0∧x.f0≤9
    ·exact hr
    ·rw [if_neg hr] at hlen;omega
   rw [if_pos hr] at hlen
   have ha:=arN_le x.f0
   have hj1:Evt (fun k=>impl_nodesOf.j1 k ((n+1:Nat):Int) x.f0 x.f1 x.f2) ((min (1+(x.f2.map (nds n)).sum) 17:Nat):Int):=by
    refine Evt.step ?_
    simp only [impl_nodesOf.j1]
    have:=impl_nodesOf_l0 n (by omega) x.f2 (by omega) (fun y _=>ih (by omega) y) x.f2.length 0 1 (by omega) (by omega)
    simpa using this
   refine Evt.step ?_
   simp only [impl_nodesOf.j0]
   refine Evt.neg (by decide) ?_
   by_cases h3:x.f0=3
   ·refine Evt.pos h3 ?_
    have h0:x.f2.length=0:=by rw [h3] at hlen;simp [arN] at hlen;simp [hlen]
    by_cases h1:x.f1.size=1
    ·refine Evt.pos (by omega) (Evt.bind (impl_IsWord_ev _ (by omega)) ?_)
     cases hw:isW x.f1 with
     | true=>exact Evt.pos rfl (hj1.cast (by simp [kOk,h3,h1,hw,h0]))
     | false=>exact Evt.neg (by decide) ((Evt.ret _).cast (by simp [kOk,h3,h1,hw]))
    ·exact Evt.neg (by omega) ((Evt.ret _).cast (by simp [kOk,h3,h1]))
   ·refine Evt.neg h3 ?_
    by_cases h1:x.f1.size=0
    ·have h4:x.f2.length=arN x.f0:=by omega
     exact Evt.pos ((toList_nil_iff _).2 h1) (hj1.cast (by simp [kOk,h3,h1,hr,h4]))
    ·exact Evt.neg (fun h=>h1 ((toList_nil_iff _).1 h)) ((Evt.ret _).cast (by simp [kOk,h3,h1]))
  ·have e:((x.f2.length:Int) != (if 1≤x.f0∧x.f0≤9 then (arN x.f0:Int) else -1))=true:=bne_iff_ne.mpr hlen
   rw [e]
   refine (impl_nodesOf_j0t _ _ _ _).cast ?_
   rw [if_neg]
   ·rfl
   ·intro hk
    have:=kOk_len hk
    refine hlen ?_
    have hr:1≤x.f0∧x.f0≤9:=by
     unfold kOk at hk
     split at hk
     ·omega
     ·simp at hk;exact hk.1.1
    rw [if_pos hr];omega
theorem impl_IsValidRegex_ev (x:S43):Evt (fun k=>impl_IsValidRegex.f k x.f0 x.f1 x.f2) (decide (nds 6 x≤16)):=by
 simp only [impl_IsValidRegex.f]
 refine Evt.bind (impl_nodesOf_ev 6 (Nat.le_refl _) x) ((Evt.ret _).cast ?_)
 have e:(((nds 6 x:Nat):Int)≤16)=(nds 6 x≤16):=by apply propext;omega
 simp [e]
theorem spec_l3Left_ev (n:Nat):∀ x:S43,Ht n x→∀ v:Int,0≤v→v≤16→∃ r,Evt (fun k=>spec_l3Left.f k x.f0 x.f1 x.f2 v) r∧r≤16∧(if (siz n x:Int)≤v then r=v - siz n x else r < 0):=by
 induction n with
 | zero=>intro x h;exact h.elim
 | succ n ih =>
  rintro ⟨a,b,l⟩ ⟨hl,hm⟩ v h0 h1
  simp only at hl hm
  have hh:∀ d i:Nat,i+d=l.length→∀ u:Int,u≤16→∃ r,Evt (fun k=>spec_l3Left.l0 k u (i:Int) a b l) r∧r≤16∧(if ((((l.drop i).map (siz n)).sum:Nat):Int)≤u then r=u - (((l.drop i).map (siz n)).sum:Nat) else r < 0):=by
   intro d
   induction d with
   | zero =>
    intro i hi u hu
    refine ⟨u,Evt.step ?_,hu,?_⟩
    ·simp only [spec_l3Left.l0]
     exact Evt.neg (by omega) (Evt.ret _)
    ·rw [List.drop_of_length_le (by omega)]
     simp only [List.map_nil,List.sum_nil]
     split <;> omega
   | succ d ihd =>
    intro i hi u hu
    have hi':i < l.length:=by omega
    rw [List.drop_eq_getElem_cons hi',List.map_cons,List.sum_cons]
    by_cases hu0:u ≥ 0
    ·obtain ⟨r,hr,hr',hc⟩:=ih l[i] (hm _ (List.getElem_mem hi')) u hu0 hu
     obtain ⟨r2,hr2,hr2',hc2⟩:=ihd (i+1) (by omega) r hr'
     refine ⟨r2,Evt.step ?_,hr2',?_⟩
     ·simp only [spec_l3Left.l0]
      rw [rxI_at l i hi',w64s (by omega)]
      exact Evt.pos (by omega) (Evt.pos hu0 (Evt.pos (by omega) (Evt.bind hr hr2)))
     ·generalize (((l.drop (i+1)).map (siz n)).sum)=s at *
      generalize siz n l[i]=t at *
      split at hc <;> split at hc2 <;> split <;> omega
    ·refine ⟨u,Evt.step ?_,hu,?_⟩
     ·simp only [spec_l3Left.l0]
      exact Evt.pos (by omega) (Evt.neg hu0 (Evt.ret _))
     ·rw [if_neg (by omega)];omega
  obtain ⟨r,hr,hr',hc⟩:=hh l.length 0 (by omega) (v - 1) (by omega)
  refine ⟨r,Evt.step ?_,hr',?_⟩
  ·simp only [spec_l3Left.f]
   rw [w64 (by omega) (by omega)]
   exact hr
  ·rw [List.drop_zero] at hc
   have e:siz (n+1) (⟨a,b,l⟩:S43)=1+(l.map (siz n)).sum:=by simp [siz]
   by_cases hs:((siz (n+1) (⟨a,b,l⟩:S43):Nat):Int)≤v
   ·rw [if_pos hs]
    rw [if_pos (by omega)] at hc
    omega
   ·rw [if_neg hs]
    rw [if_neg (by omega)] at hc
    exact hc
theorem mem_sum {n:Nat} (l:List S43) (y:S43) (h:y ∈ l):siz n y≤(l.map (siz n)).sum:=by
 induction l with
 | nil=>cases h
 | cons x l ih =>
  rw [List.map_cons,List.sum_cons]
  rcases List.mem_cons.1 h with rfl|h
  ·omega
  ·have:=ih h;omega
theorem spec_l3Depth_ev (n:Nat):∀ x:S43,Ht n x→siz n x≤16→Evt (fun k=>spec_l3Depth.f k x.f0 x.f1 x.f2) (dep n x:Int):=by
 induction n with
 | zero=>intro x h;exact h.elim
 | succ n ih =>
  rintro ⟨a,b,l⟩ ⟨hl,hm⟩ hs
  simp only at hl hm
  simp only [siz] at hs
  have hx:∀ y ∈ l,siz n y≤16:=by
   intro y hy
   have:siz n y≤(l.map (siz n)).sum:=mem_sum l y hy
   omega
  have hh:∀ d i:Nat,i+d=l.length→∀ u:Nat,u≤16→Evt (fun k=>spec_l3Depth.l0 k (u:Int) (i:Int) a b l) ((max u (((l.drop i).map (dep n)).foldr max 0)+1:Nat):Int):=by
   intro d
   induction d with
   | zero =>
    intro i hi u hu
    refine Evt.step ?_
    simp only [spec_l3Depth.l0]
    rw [List.drop_of_length_le (by omega)]
    refine Evt.neg (by omega) ((Evt.ret _).cast ?_)
    rw [w64 (by omega) (by omega)]
    simp
   | succ d ihd =>
    intro i hi u hu
    have hi':i < l.length:=by omega
    have h1:=hx _ (List.getElem_mem hi')
    have h2:=dep_le_siz n l[i]
    refine Evt.step ?_
    simp only [spec_l3Depth.l0]
    rw [List.drop_eq_getElem_cons hi',List.map_cons,List.foldr_cons]
    rw [rxI_at l i hi',w64s (by omega)]
    refine Evt.pos (by omega) (Evt.pos (by omega) (Evt.bind (ih _ (hm _ (List.getElem_mem hi')) h1) (Evt.bindc (a:=((max u (dep n l[i]):Nat):Int)) ?_ ?_)))
    ·simp only [spec_l1Max.f]
     split
     ·congr 1;omega
     ·congr 1;omega
    ·refine (ihd (i+1) (by omega) (max u (dep n l[i])) (by omega)).cast ?_
     congr 1
     generalize ((l.drop (i+1)).map (dep n)).foldr max 0=z
     omega
  refine Evt.step ?_
  simp only [spec_l3Depth.f]
  refine (hh l.length 0 (by omega) 0 (by omega)).cast ?_
  simp [dep]
theorem spec_l3Args_ev (a:Int):Evt (fun k=>spec_l3Args.f k a) (arN a:Int):=by
 refine ⟨1,fun k hk=>?_⟩
 obtain ⟨m,rfl⟩:∃ m,k=m+1:=⟨k - 1,by omega⟩
 have h:a=5∨a=6∨a=7∨a=8∨a=9∨(a ≠ 5∧a ≠ 6∧a ≠ 7∧a ≠ 8∧a ≠ 9):=by omega
 rcases h with rfl|rfl|rfl|rfl|rfl|⟨h1,h2,h3,h4,h5⟩
 all_goals simp [spec_l3Args.f,spec_l3Args.j0,arN, *]
theorem spec_l3All_ev (n:Nat):∀ x:S43,Ht n x→Evt (fun k=>spec_l3All.f k x.f0 x.f1 x.f2) (alls n x):=by
 induction n with
 | zero=>intro x h;exact h.elim
 | succ n ih =>
  rintro ⟨a,b,l⟩ ⟨hl,hm⟩
  simp only at hl hm
  refine Evt.step ?_
  simp only [spec_l3All.f,alls]
  have hh:=Evt.up (fun k i=>spec_l3All.l0 k i a b l) l.length (fun i=>(l.drop i).all (alls n) && kOk a b l.length) ?_ ?_
  ·simpa using hh
  ·refine Evt.step ?_
   simp only [spec_l3All.l0]
   rw [List.drop_of_length_le (by omega)]
   refine Evt.neg (by omega) ?_
   simp only [List.all_nil,Bool.true_and]
   unfold kOk
   by_cases h3:a=3
   ·rw [if_pos h3]
    refine Evt.pos h3 ?_
    by_cases h1:b.size=1
    ·refine Evt.pos (by omega) (Evt.bind (spec_IsWord_ev _ (by omega)) ?_)
     cases hw:isW b with
     | true =>
      refine Evt.pos rfl ((Evt.ret _).cast ?_)
      have e:((l.length:Int) == 0)=decide (l.length=0):=by rw [show ((l.length:Int) == 0)=decide ((l.length:Int)=0) from rfl];congr 1;apply propext;omega
      simp [h1,e]
     | false=>exact Evt.neg (by decide) ((Evt.ret _).cast (by simp))
    ·exact Evt.neg (by omega) ((Evt.ret _).cast (by simp [h1]))
   ·rw [if_neg h3]
    refine Evt.neg h3 ?_
    by_cases hr:1≤a∧a≤9
    ·refine Evt.bindc (a:=true) (by simp [spec_l1In.f,hr.1,hr.2]) (Evt.pos rfl ?_)
     by_cases h1:b.size=0
     ·refine Evt.pos ((toList_nil_iff _).2 h1) (Evt.bind (spec_l3Args_ev _) ((Evt.ret _).cast ?_))
      have e:((l.length:Int) == (arN a:Int))=decide (l.length=arN a):=by rw [show ((l.length:Int) == (arN a:Int))=decide ((l.length:Int)=(arN a:Int)) from rfl];congr 1;apply propext;omega
      simp [h1,hr.1,hr.2,e]
     ·exact Evt.neg (fun h=>h1 ((toList_nil_iff _).1 h)) ((Evt.ret _).cast (by simp [h1]))
    ·refine Evt.bindc (a:=false) ?_ (Evt.neg (by decide) ((Evt.ret _).cast (by simp [hr])))
     simp only [spec_l1In.f]
     by_cases hr1:a ≥ 1
     ·rw [if_pos hr1];congr 1;simp;omega
     ·rw [if_neg hr1]
  ·intro i hi h
   refine Evt.step ?_
   simp only [spec_l3All.l0]
   rw [rxI_at l i hi,w64s (by omega),List.drop_eq_getElem_cons hi]
   refine Evt.pos (by omega) (Evt.pos (by omega) (Evt.bind (ih _ (hm _ (List.getElem_mem hi))) ?_))
   rw [List.all_cons]
   cases alls n l[i] with
   | true=>exact Evt.pos rfl (h.cast (by simp))
   | false=>exact Evt.neg (by decide) ((Evt.ret _).cast (by simp))
theorem spec_IsValidRegex_ev (x:S43) (h:Sm x):Evt (fun k=>spec_IsValidRegex.f k x.f0 x.f1 x.f2) (decide (nds 6 x≤16)):=by
 obtain ⟨n,hn⟩:=h.ht
 rw [nds_eq n x 6 hn]
 simp only [spec_IsValidRegex.f]
 obtain ⟨r,hr,_,hc⟩:=spec_l3Left_ev n x hn 16 (by omega) (by omega)
 refine Evt.bind hr ?_
 by_cases h1:siz n x≤16
 ·rw [if_pos (by omega)] at hc
  refine Evt.pos (by omega) (Evt.bind (spec_l3Depth_ev n x hn h1) ?_)
  by_cases h2:dep n x≤6
  ·refine Evt.pos (by omega) (Evt.bind (spec_l3All_ev n x hn) ((Evt.ret _).cast ?_))
   cases ha:alls n x <;> simp [h1,h2]
  ·exact Evt.neg (by omega) ((Evt.ret _).cast (by simp [h2]))
 ·rw [if_neg (by omega)] at hc
  exact Evt.neg (by omega) ((Evt.ret _).cast (by simp [h1]))
def zR (d:Int) (e:ByteArray) (l:List S43):Bool:=decide (d=0) && decide (e.size=0) && ((l.length:Int) == 0)
theorem spec_l9Zero_eq (d:Int) (e:ByteArray) (l:List S43):spec_l9Zero.f d e l=some (zR d e l):=by
 unfold spec_l9Zero.f zR
 by_cases h1:d=0
 ·by_cases h2:e.size=0
  ·rw [if_pos h1,if_pos ((toList_nil_iff _).2 h2)];simp [h1,h2]
  ·rw [if_pos h1,if_neg (fun h=>h2 ((toList_nil_iff _).1 h))];simp [h2]
 ·rw [if_neg h1];simp [h1]
theorem impl_isZeroRegex_eq (d:Int) (e:ByteArray) (l:List S43):impl_isZeroRegex.f d e l=some (zR d e l):=by
 unfold impl_isZeroRegex.f zR
 by_cases h1:d=0
 ·by_cases h2:e.size=0
  ·rw [if_pos h1,if_pos ((toList_nil_iff _).2 h2)];simp [h1,h2]
  ·rw [if_pos h1,if_neg (fun h=>h2 ((toList_nil_iff _).1 h))];simp [h2]
 ·rw [if_neg h1];simp [h1]
def inR (a lo hi:Int):Bool:=decide (lo≤a∧a≤hi)
theorem spec_l1In_eq (a lo hi:Int):spec_l1In.f a lo hi=some (inR a lo hi):=by
 unfold spec_l1In.f inR
 by_cases h:a ≥ lo
 ·rw [if_pos h];congr 1;simp [show lo≤a from h]
 ·rw [if_neg h];congr 1;simp;omega
theorem impl_within_eq (a lo hi:Int):impl_within.f a lo hi=some (inR a lo hi):=by
 unfold impl_within.f inR
 by_cases h:a ≥ lo
 ·rw [if_pos h];congr 1;simp [show lo≤a from h]
 ·rw [if_neg h];congr 1;simp;omega
def cfs (m:List Int):Bool:=m.all fun c=>inR c (-9) 9
theorem rdI_at (m:List Int) (i:Nat) (h:i < m.length):rd m (i:Int)=m[i]:=by simp [rd,h]
theorem spec_l9Coeffs_ev (m:List Int) (hm:m.length≤1048576):Evt (fun k=>spec_l9Coeffs.f k m) (cfs m && ((m.length:Int) == 3)):=by
 have h:=Evt.up (fun k i=>spec_l9Coeffs.l0 k m i) m.length (fun i=>cfs (m.drop i) && ((m.length:Int) == 3)) ?_ ?_
 ·simpa [spec_l9Coeffs.f] using h
 ·refine Evt.step ?_
  simp only [spec_l9Coeffs.l0]
  rw [List.drop_of_length_le (by omega)]
  exact Evt.neg (by omega) ((Evt.ret _).cast (by simp [cfs]))
 ·intro i hi h
  refine Evt.step ?_
  simp only [spec_l9Coeffs.l0]
  rw [rdI_at m i hi,w64s (by omega),List.drop_eq_getElem_cons hi]
  refine Evt.pos (by omega) (Evt.pos (by omega) (Evt.bindc (spec_l1In_eq _ _ _) ?_))
  have e:cfs (m[i] :: m.drop (i+1))=(inR m[i] (-9) 9 && cfs (m.drop (i+1))):=rfl
  rw [e]
  cases inR m[i] (-9) 9 with
  | true=>exact Evt.pos rfl (h.cast (by simp))
  | false=>exact Evt.neg (by decide) ((Evt.ret _).cast (by simp))
theorem impl_coeffs_ev (m:List Int) (hm:m.length≤1048576):Evt (fun k=>slices_ContainsFunc_int_int.f k m) (!cfs m):=by
 simp only [slices_ContainsFunc_int_int.f,slices_IndexFunc_int_int.f]
 have h:∀ d i:Nat,i+d=m.length→∃ r,Evt (fun k=>slices_IndexFunc_int_int.l0 k m (m.length:Int) (i:Int)) r∧decide (r ≥ 0) = !cfs (m.drop i):=by
  intro d
  induction d with
  | zero =>
   intro i hi
   refine ⟨-1,Evt.step ?_,?_⟩
   ·simp only [slices_IndexFunc_int_int.l0]
    exact Evt.neg (by omega) (Evt.ret _)
   ·rw [List.drop_of_length_le (by omega)];rfl
  | succ d ih =>
   intro i hi
   have hi':i < m.length:=by omega
   have e:cfs (m[i] :: m.drop (i+1))=(inR m[i] (-9) 9 && cfs (m.drop (i+1))):=rfl
   rw [List.drop_eq_getElem_cons hi',e]
   obtain ⟨r,hr,hc⟩:=ih (i+1) (by omega)
   cases hq:inR m[i] (-9) 9 with
   | true =>
    refine ⟨r,Evt.step ?_,by simpa using hc⟩
    simp only [slices_IndexFunc_int_int.l0,impl_IsValidConstraint_1.f]
    rw [rdI_at m i hi',w64s (by omega)]
    exact Evt.pos (by omega) (Evt.pos (by omega) (Evt.pos (by omega) (Evt.bind (Evt.bindc (impl_within_eq _ _ _) (Evt.ret _)) (Evt.neg (by simp [hq]) hr))))
   | false =>
    refine ⟨(i:Int),Evt.step ?_,by simp⟩
    simp only [slices_IndexFunc_int_int.l0,impl_IsValidConstraint_1.f]
    rw [rdI_at m i hi']
    exact Evt.pos (by omega) (Evt.pos (by omega) (Evt.pos (by omega) (Evt.bind (Evt.bindc (impl_within_eq _ _ _) (Evt.ret _)) (Evt.pos (by simp [hq]) (Evt.ret _)))))
 obtain ⟨r,hr,hc⟩:=h m.length 0 (by omega)
 exact Evt.bind hr ((Evt.ret _).cast (by rw [hc];rfl))
def valX (x:Bool) (a:Int) (b c:ByteArray) (d:Int) (e:ByteArray) (l:List S43) (m:List Int) (n:Int):Bool :=
 if a=1∨a=2 then isTm b && (isTm c && (zR d e l && x))
 else if a=3∨a=4 then isTm b && (decide (c.size=0) && (decide (nds 6 ⟨d,e,l⟩≤16) && x))
 else if a=5 then decide (b.size=0) && (decide (c.size=0) && (zR d e l && ((cfs m && ((m.length:Int) == 3)) && inR n (-99) 99)))
 else false
def valC (a:Int) (b c:ByteArray) (d:Int) (e:ByteArray) (l:List S43) (m:List Int) (n:Int):Bool :=
 valX (decide (m.length=0) && (n == 0)) a b c d e l m n
section
variable {a : Int} {b c : ByteArray} {d : Int} {e : ByteArray} {l : List S43} {m : List Int} {n : Int}
theorem and_ev {g h:Nat→Option Bool} {p q:Bool} (hg:Evt g p) (hh:p=true→Evt h q):Evt (fun k=>(g k).bind fun t=>if t=true then h k else some false) (p && q):=by
 refine Evt.bind hg ?_
 cases p with
 | true=>exact Evt.pos rfl ((hh rfl).cast (by simp))
 | false=>exact Evt.neg (by decide) ((Evt.ret _).cast (by simp))
theorem nil_ev {s:ByteArray} {h:Nat→Option Bool} {q:Bool} (hh:s.size=0→Evt h q):Evt (fun k=>if s.toList=([]:List UInt8) then h k else some false) (decide (s.size=0) && q):=by
 by_cases hs:s.size=0
 ·exact Evt.pos ((toList_nil_iff _).2 hs) ((hh hs).cast (by simp [hs]))
 ·exact Evt.neg (fun h=>hs ((toList_nil_iff _).1 h)) ((Evt.ret _).cast (by simp [hs]))
theorem last_ev {g:Nat→Option Bool} {p:Bool} (hg:Evt g p):Evt (fun k=>(g k).bind fun t=>some t) p:=Evt.bind hg (Evt.ret _)
theorem spec_j1t (x:Bool) (v:Int) (hb:b.size≤9223372036854775807) (hc:c.size≤9223372036854775807):Evt (fun k=>spec_IsValidConstraint.j1 k x v true a b c d e l m n) (isTm b && (isTm c && (zR d e l && x))):=by
 refine Evt.step ?_
 simp only [spec_IsValidConstraint.j1]
 exact Evt.pos trivial (and_ev (spec_IsTerm_ev b hb) fun _=>and_ev (spec_IsTerm_ev c hc) fun _=>and_ev (Evt.const (spec_l9Zero_eq d e l)) fun _=>Evt.ret _)
theorem spec_j2t (x:Bool) (v:Int) (hb:b.size≤9223372036854775807) (hr:Sm ⟨d,e,l⟩):Evt (fun k=>spec_IsValidConstraint.j2 k x v true a b c d e l m n) (isTm b && (decide (c.size=0) && (decide (nds 6 ⟨d,e,l⟩≤16) && x))):=by
 refine Evt.step ?_
 simp only [spec_IsValidConstraint.j2]
 exact Evt.pos trivial (and_ev (spec_IsTerm_ev b hb) fun _=>nil_ev fun _=>and_ev (spec_IsValidRegex_ev ⟨d,e,l⟩ hr) fun _=>Evt.ret _)
theorem spec_IsValidConstraint_ev (hb:b.size≤9223372036854775807) (hc:c.size≤9223372036854775807) (hr:Sm ⟨d,e,l⟩) (hm:m.length≤1048576):Evt (fun k=>spec_IsValidConstraint.f k a b c d e l m n) (valC a b c d e l m n):=by
 have hj:∀ x:Bool,Evt (fun k=>spec_IsValidConstraint.j0 k x a b c d e l m n) (valX x a b c d e l m n):=by
  intro x
  refine Evt.step ?_
  simp only [spec_IsValidConstraint.j0]
  unfold valX
  by_cases h1:a=1
  ·subst h1;exact Evt.pos rfl ((spec_j1t x _ hb hc).cast (by simp))
  refine Evt.neg h1 ?_
  by_cases h2:a=2
  ·subst h2;exact (spec_j1t x _ hb hc).cast (by simp)
  rw [show (a == 2)=false by simpa using h2,if_neg (by omega)]
  refine Evt.step ?_
  simp only [spec_IsValidConstraint.j1]
  refine Evt.neg (by decide) ?_
  by_cases h3:a=3
  ·subst h3;exact Evt.pos rfl ((spec_j2t x _ hb hr).cast (by simp))
  refine Evt.neg h3 ?_
  by_cases h4:a=4
  ·subst h4;exact (spec_j2t x _ hb hr).cast (by simp)
  rw [show (a == 4)=false by simpa using h4,if_neg (by omega)]
  refine Evt.step ?_
  simp only [spec_IsValidConstraint.j2]
  refine Evt.neg (by decide) ?_
  by_cases h5:a=5
  ·rw [if_pos h5]
   exact Evt.pos h5 (nil_ev fun _=>nil_ev fun _=>and_ev (Evt.const (spec_l9Zero_eq d e l)) fun _=>and_ev (spec_l9Coeffs_ev m hm) fun _=>last_ev (Evt.const (spec_l1In_eq _ _ _)))
  ·rw [if_neg h5]
   exact Evt.neg h5 (Evt.ret _)
 simp only [spec_IsValidConstraint.f]
 unfold valC
 by_cases h0:m.length=0
 ·exact Evt.pos (by omega) ((hj _).cast (by simp [h0]))
 ·exact Evt.neg (by omega) ((hj _).cast (by simp [h0]))
theorem impl_j1t (v:Int):Evt (fun k=>impl_IsValidConstraint.j1 k v true a b c d e l m n) (isTm b && (isTm c && (zR d e l))):=by
 refine Evt.step ?_
 simp only [impl_IsValidConstraint.j1]
 exact Evt.pos trivial (and_ev (impl_IsTerm_ev b) fun _=>and_ev (impl_IsTerm_ev c) fun _=>last_ev (Evt.const (impl_isZeroRegex_eq d e l)))
theorem impl_j2t (v:Int):Evt (fun k=>impl_IsValidConstraint.j2 k v true a b c d e l m n) (isTm b && (decide (c.size=0) && (decide (nds 6 ⟨d,e,l⟩≤16)))):=by
 refine Evt.step ?_
 simp only [impl_IsValidConstraint.j2]
 exact Evt.pos trivial (and_ev (impl_IsTerm_ev b) fun _=>nil_ev fun _=>last_ev (impl_IsValidRegex_ev ⟨d,e,l⟩))
theorem impl_j0t:Evt (fun k=>impl_IsValidConstraint.j0 k true a b c d e l m n) false:=by
 refine Evt.step ?_
 simp only [impl_IsValidConstraint.j0]
 exact Evt.pos trivial (Evt.ret _)
theorem impl_IsValidConstraint_ev (hm:m.length≤1048576):Evt (fun k=>impl_IsValidConstraint.f k a b c d e l m n) (valC a b c d e l m n):=by
 have hj:Evt (fun k=>impl_IsValidConstraint.j0 k false a b c d e l m n) (valX true a b c d e l m n):=by
  refine Evt.step ?_
  simp only [impl_IsValidConstraint.j0]
  unfold valX
  refine Evt.neg (by decide) ?_
  by_cases h1:a=1
  ·subst h1;exact Evt.pos rfl ((impl_j1t _).cast (by simp))
  refine Evt.neg h1 ?_
  by_cases h2:a=2
  ·subst h2;exact (impl_j1t _).cast (by simp)
  rw [show (a == 2)=false by simpa using h2,if_neg (by omega)]
  refine Evt.step ?_
  simp only [impl_IsValidConstraint.j1]
  refine Evt.neg (by decide) ?_
  by_cases h3:a=3
  ·subst h3;exact Evt.pos rfl ((impl_j2t _).cast (by simp))
  refine Evt.neg h3 ?_
  by_cases h4:a=4
  ·subst h4;exact (impl_j2t _).cast (by simp)
  rw [show (a == 4)=false by simpa using h4,if_neg (by omega)]
  refine Evt.step ?_
  simp only [impl_IsValidConstraint.j2]
  refine Evt.neg (by decide) ?_
  by_cases h5:a=5
  ·rw [if_pos h5]
   refine Evt.pos h5 (nil_ev fun _=>nil_ev fun _=>and_ev (Evt.const (impl_isZeroRegex_eq d e l)) fun _=>?_)
   by_cases h3':m.length=3
   ·refine Evt.pos (by omega) ?_
    rw [show ((m.length:Int) == 3)=true by simp [h3'],Bool.and_true,Bool.and_comm (cfs m)]
    exact and_ev (Evt.const (impl_within_eq _ _ _)) fun _=>Evt.bind (impl_coeffs_ev m hm) ((Evt.ret _).cast (by simp))
   ·refine Evt.neg (by omega) ((Evt.ret _).cast ?_)
    have e3:((m.length:Int) == 3)=false:=by simp;omega
    simp [e3]
  ·rw [if_neg h5]
   exact Evt.neg h5 (Evt.ret _)
 simp only [impl_IsValidConstraint.f]
 unfold valC
 have hx:∀ x,a=5→valX x a b c d e l m n=valX true a b c d e l m n:=by
  intro x h;subst h;simp [valX]
 have hy:¬ a=5→valX false a b c d e l m n=false:=by
  intro h;unfold valX;simp [h]
 by_cases h5:a=5
 ·exact Evt.pos h5 (hj.cast (hx _ h5).symm)
 refine Evt.neg h5 ?_
 by_cases h0:m.length=0
 ·refine Evt.pos (by omega) ?_
  by_cases hn:n=0
  ·rw [show (n != 0)=false by simp [hn]]
   exact hj.cast (by simp [h0,hn])
  ·rw [show (n != 0)=true by simp [hn]]
   exact impl_j0t.cast (by rw [show (n == 0)=false by simp [hn]];simp [hy h5])
 ·exact Evt.neg (by omega) (impl_j0t.cast (by simp [h0,hy h5]))
end
end Go.Proofs.Yteolnmoomeenbaa.F
namespace Go.Proofs.Yteolnmoomeenbaa.F
open Go Go.RowKit YteolnmoomeenbaaW.PrintWords Yteolnmoomeenbaa.Pl Yteolnmoomeenbaa.A Yteolnmoomeenbaa.Ext
def valK (y:S46):Bool:=valC y.f0 y.f1 y.f2 y.f3.f0 y.f3.f1 y.f3.f2 y.f4 y.f5
def valP (ys:List S46):Bool:=ys.all valK && decide ((ys.length:Int)≤6)
theorem spec_IsValidProblem_ev (ys:List S46) (hl:ys.length≤1048576) (h:∀ y ∈ ys,CsSm y):Evt (fun k=>spec_IsValidProblem.f k ys) (valP ys):=by
 have hh:=Evt.up (fun k i=>spec_IsValidProblem.l0 k i ys) ys.length (fun i=>(ys.drop i).all valK && decide ((ys.length:Int)≤6)) ?_ ?_
 ·simpa [spec_IsValidProblem.f,valP] using hh
 ·refine Evt.step ?_
  simp only [spec_IsValidProblem.l0]
  rw [List.drop_of_length_le (by omega)]
  exact Evt.neg (by omega) ((Evt.ret _).cast (by simp))
 ·intro i hi hn
  obtain ⟨g1,g2,g3,g4⟩:=h _ (List.getElem_mem hi)
  have hv:=spec_IsValidConstraint_ev (a:=ys[i].f0) (d:=ys[i].f3.f0) (n:=ys[i].f5) (Nat.le_trans g3 (by decide)) (Nat.le_trans g4 (by decide)) (by rw [rx_eta];exact g1) g2
  refine Evt.step ?_
  simp only [spec_IsValidProblem.l0]
  rw [csI_at ys i hi,w64s (by omega),List.drop_eq_getElem_cons hi,List.all_cons]
  refine Evt.pos (by omega) (Evt.pos (by omega) (Evt.bind hv ?_))
  change Evt (fun k=>if valK ys[i]=true then _ else _) _
  cases valK ys[i] with
  | true=>exact Evt.pos rfl (hn.cast (by simp))
  | false=>exact Evt.neg (by decide) ((Evt.ret _).cast (by simp))
theorem impl_IsValidProblem_ev (ys:List S46) (hl:ys.length≤1048576) (h:∀ y ∈ ys,CsSm y):Evt (fun k=>impl_IsValidProblem.f k ys) (valP ys):=by
 simp only [impl_IsValidProblem.f,impl_Constraint_27.f,impl_Constraint_46.f]
 unfold valP
 by_cases h6:(ys.length:Int)≤6
 ·refine Evt.pos h6 ?_
  have hh:∀ d i:Nat,i+d=ys.length→∃ r,Evt (fun k=>impl_Constraint_46.l0 k ys (ys.length:Int) (i:Int)) r∧decide (r ≥ 0) = !((ys.drop i).all valK):=by
   intro d
   induction d with
   | zero =>
    intro i hi
    refine ⟨-1,Evt.step ?_,?_⟩
    ·simp only [impl_Constraint_46.l0]
     exact Evt.neg (by omega) (Evt.ret _)
    ·rw [List.drop_of_length_le (by omega)];rfl
   | succ d ih =>
    intro i hi
    have hi':i < ys.length:=by omega
    obtain ⟨g1,g2,g3,g4⟩:=h _ (List.getElem_mem hi')
    have hv:Evt (fun k=>impl_IsValidConstraint.f k ys[i].f0 ys[i].f1 ys[i].f2 ys[i].f3.f0 ys[i].f3.f1 ys[i].f3.f2 ys[i].f4 ys[i].f5) (valK ys[i]):=impl_IsValidConstraint_ev g2
    rw [List.drop_eq_getElem_cons hi',List.all_cons]
    obtain ⟨r,hr,hc⟩:=ih (i+1) (by omega)
    cases hq:valK ys[i] with
    | true =>
     refine ⟨r,Evt.step ?_,by simpa using hc⟩
     simp only [impl_Constraint_46.l0,impl_IsValidProblem_1.f]
     rw [csI_at ys i hi',w64s (by omega)]
     exact Evt.pos (by omega) (Evt.pos (by omega) (Evt.pos (by omega) (Evt.bind (Evt.bind hv (Evt.ret _)) (Evt.neg (by simp [hq]) hr))))
    | false =>
     refine ⟨(i:Int),Evt.step ?_,by simp⟩
     simp only [impl_Constraint_46.l0,impl_IsValidProblem_1.f]
     rw [csI_at ys i hi']
     exact Evt.pos (by omega) (Evt.pos (by omega) (Evt.pos (by omega) (Evt.bind (Evt.bind hv (Evt.ret _)) (Evt.pos (by simp [hq]) (Evt.ret _)))))
  obtain ⟨r,hr,hc⟩:=hh ys.length 0 (by omega)
  refine Evt.bind (Evt.bind hr (Evt.ret _)) ((Evt.ret _).cast ?_)
  rw [hc]
  simp [h6]
 ·exact Evt.neg h6 ((Evt.ret _).cast (by simp [h6]))
theorem rdR_at (l:List S43) (i:Nat) (h:i < l.length):rd_T43 l (i:Int)=l[i]:=by simp [rd_T43,h]
theorem rdC_at (l:List S46) (i:Nat) (h:i < l.length):rd_T46 l (i:Int)=l[i]:=by simp [rd_T46,h]
theorem clone_rx (x:S43) (h:Sm x):Evt (fun k=>impl_cloneRegex.f k x.f0 x.f1 x.f2) (x.f0,x.f1,x.f2):=by
 induction h with
 | mk a b l hl hs hb ih =>
  have h:∀ d i:Nat,i+d=l.length→Evt (fun k=>impl_cloneRegex.l0 k l (l.length:Int) (i:Int) a b (l.take i)) (a,b,l):=by
   intro d
   induction d with
   | zero =>
    intro i hi
    refine Evt.step ?_
    simp only [impl_cloneRegex.l0]
    rw [List.take_of_length_le (by omega)]
    exact Evt.neg (by omega) (Evt.ret _)
   | succ d ihd =>
    intro i hi
    have hm:i < l.length:=by omega
    have hn:=ihd (i+1) (by omega)
    rw [List.take_succ_eq_append_getElem hm] at hn
    refine Evt.step ?_
    simp only [impl_cloneRegex.l0]
    have hc:=ih _ (List.getElem_mem hm)
    obtain ⟨p,q,r,e⟩:∃ p q r,l[i]=⟨p,q,r⟩:=by
     cases l[i]
     exact ⟨_,_,_,rfl⟩
    rw [rdR_at l i hm,w64s (by omega),e]
    rw [e] at hn hc
    exact Evt.pos (by omega) (Evt.pos (by omega) (Evt.pos (by omega) (Evt.bind hc (Evt.pos (by rw [List.length_take];omega) hn))))
  refine Evt.step ?_
  simp only [impl_cloneRegex.f]
  exact h l.length 0 (by omega)
theorem copy_rx (x:S43) (h:Sm x):Evt (fun k=>spec_l3Copy.f k x.f0 x.f1 x.f2) (x.f0,x.f1,x.f2):=by
 induction h with
 | mk a b l hl hs hb ih =>
  have h:∀ d i:Nat,i+d=l.length→Evt (fun k=>spec_l3Copy.l0 k (i:Int) a b l a b (l.take i)) (a,b,l):=by
   intro d
   induction d with
   | zero =>
    intro i hi
    refine Evt.step ?_
    simp only [spec_l3Copy.l0]
    rw [List.take_of_length_le (by omega)]
    exact Evt.neg (by omega) (Evt.ret _)
   | succ d ihd =>
    intro i hi
    have hm:i < l.length:=by omega
    have hn:=ihd (i+1) (by omega)
    rw [List.take_succ_eq_append_getElem hm] at hn
    refine Evt.step ?_
    simp only [spec_l3Copy.l0]
    have hc:=ih _ (List.getElem_mem hm)
    obtain ⟨p,q,r,e⟩:∃ p q r,l[i]=⟨p,q,r⟩:=by
     cases l[i]
     exact ⟨_,_,_,rfl⟩
    rw [rdR_at l i hm,w64s (by omega),e]
    rw [e] at hn hc
    exact Evt.pos (by omega) (Evt.pos (by omega) (Evt.bind hc (Evt.pos (by rw [List.length_take];omega) hn)))
  refine Evt.step ?_
  simp only [spec_l3Copy.f]
  exact h l.length 0 (by omega)
def Cw (y:S46):Prop:=Sm y.f3∧y.f4.length≤1048576
theorem clone_cs (y:S46) (h:Cw y):Evt (fun k=>impl_cloneConstraint.f k y.f0 y.f1 y.f2 y.f3.f0 y.f3.f1 y.f3.f2 y.f4 y.f5) (y.f0,y.f1,y.f2,y.f3.f0,y.f3.f1,y.f3.f2,y.f4,y.f5):=by
 simp only [impl_cloneConstraint.f]
 exact Evt.bind (clone_rx y.f3 h.1) (Evt.bindc (a:=y.f4) (by unfold slices_Clone_int_int.f;rw [if_pos (by have:=h.2;omega)]) (Evt.ret _))
theorem copy_cs (y:S46) (h:Cw y):Evt (fun k=>spec_l9Copy.f k y.f0 y.f1 y.f2 y.f3.f0 y.f3.f1 y.f3.f2 y.f4 y.f5) (y.f0,y.f1,y.f2,y.f3.f0,y.f3.f1,y.f3.f2,y.f4,y.f5):=by
 simp only [spec_l9Copy.f]
 exact Evt.bind (copy_rx y.f3 h.1) (Evt.bindc rfl (Evt.pos (by have:=h.2;simp;omega) ((Evt.ret _).cast (by simp))))
theorem clone_pr (l:List S46) (hl:l.length≤1048576) (h:∀ y ∈ l,Cw y):Evt (fun k=>impl_cloneProblem.f k l) l:=by
 have h:∀ d i:Nat,i+d=l.length→Evt (fun k=>impl_cloneProblem.l0 k l (l.length:Int) (i:Int) (l.take i)) l:=by
  intro d
  induction d with
  | zero =>
   intro i hi
   refine Evt.step ?_
   simp only [impl_cloneProblem.l0]
   rw [List.take_of_length_le (by omega)]
   exact Evt.neg (by omega) (Evt.ret _)
  | succ d ihd =>
   intro i hi
   have hm:i < l.length:=by omega
   have hn:=ihd (i+1) (by omega)
   rw [List.take_succ_eq_append_getElem hm] at hn
   refine Evt.step ?_
   simp only [impl_cloneProblem.l0]
   have hc:=clone_cs _ (h _ (List.getElem_mem hm))
   obtain ⟨p0,p1,p2,p3,p4,p5,p6,p7,e⟩:∃ p0 p1 p2 p3 p4 p5 p6 p7,l[i]=⟨p0,p1,p2,⟨p3,p4,p5⟩,p6,p7⟩:=by
    rcases l[i] with ⟨a,b,c,d,e,f⟩
    cases d
    exact ⟨_,_,_,_,_,_,_,_,rfl⟩
   rw [rdC_at l i hm,w64s (by omega),e]
   rw [e] at hn hc
   exact Evt.pos (by omega) (Evt.pos (by omega) (Evt.pos (by omega) (Evt.bind hc (Evt.pos (by rw [List.length_take];omega) hn))))
 simp only [impl_cloneProblem.f]
 exact h l.length 0 (by omega)
theorem copy_pr (l:List S46) (hl:l.length≤1048576) (h:∀ y ∈ l,Cw y):Evt (fun k=>spec_l10Copy.f k l) l:=by
 have h:∀ d i:Nat,i+d=l.length→Evt (fun k=>spec_l10Copy.l0 k (i:Int) l (l.take i)) l:=by
  intro d
  induction d with
  | zero =>
   intro i hi
   refine Evt.step ?_
   simp only [spec_l10Copy.l0]
   rw [List.take_of_length_le (by omega)]
   exact Evt.neg (by omega) (Evt.ret _)
  | succ d ihd =>
   intro i hi
   have hm:i < l.length:=by omega
   have hn:=ihd (i+1) (by omega)
   rw [List.take_succ_eq_append_getElem hm] at hn
   refine Evt.step ?_
   simp only [spec_l10Copy.l0]
   have hc:=copy_cs _ (h _ (List.getElem_mem hm))
   obtain ⟨p0,p1,p2,p3,p4,p5,p6,p7,e⟩:∃ p0 p1 p2 p3 p4 p5 p6 p7,l[i]=⟨p0,p1,p2,⟨p3,p4,p5⟩,p6,p7⟩:=by
    rcases l[i] with ⟨a,b,c,d,e,f⟩
    cases d
    exact ⟨_,_,_,_,_,_,_,_,rfl⟩
   rw [rdC_at l i hm,w64s (by omega),e]
   rw [e] at hn hc
   exact Evt.pos (by omega) (Evt.pos (by omega) (Evt.bind hc (Evt.pos (by rw [List.length_take];omega) hn)))
 simp only [spec_l10Copy.f]
 exact h l.length 0 (by omega)
theorem l1In_w (a b:Int):spec_l1In.f a 0 b=some (decide (0≤a) && decide (a≤b)):=by
 unfold spec_l1In.f
 by_cases h:a ≥ 0
 ·rw [if_pos h];simp [show 0≤a from h]
 ·rw [if_neg h];simp [show ¬ 0≤a from h]
theorem within_w (a b:Int):impl_within.f a 0 b=some (decide (0≤a) && decide (a≤b)):=by
 unfold impl_within.f
 by_cases h:a ≥ 0
 ·rw [if_pos h];simp [show 0≤a from h]
 ·rw [if_neg h];simp [show ¬ 0≤a from h]
theorem without_ev (ys:List S46) (hl:ys.length≤1048576) (h:∀ y ∈ ys,CsSm y) (a:Int):∃ r b,Evt (fun k=>spec_WithoutConstraint.f k ys a) (r,b)∧Evt (fun k=>impl_WithoutConstraint.f k ys a) (r,b)∧r.length≤ys.length∧∀ y ∈ r,y ∈ ys:=by
 have hc:∀ y ∈ ys,Cw y:=fun y hy=>⟨(h y hy).1,(h y hy).2.1⟩
 have e1:=spec_IsValidProblem_ev ys hl h
 have e2:=impl_IsValidProblem_ev ys hl h
 have bad:Evt (fun k=>impl_WithoutConstraint.j0 k a true ys) ([],false):=by
  refine Evt.step ?_
  simp only [impl_WithoutConstraint.j0]
  exact Evt.pos trivial (Evt.ret _)
 simp only [spec_WithoutConstraint.f,impl_WithoutConstraint.f]
 have hw:wrap64 ((ys.length:Int) - 1)=(ys.length:Int) - 1:=w64 (by omega) (by omega)
 rw [hw,l1In_w,within_w]
 cases hv:valP ys with
 | false =>
  rw [hv] at e1 e2
  exact ⟨[],false,Evt.bind e1 (Evt.neg zff (Evt.ret _)),Evt.bind e2 (Evt.neg zff bad),Nat.zero_le _,fun y hy=>by simp at hy⟩
 | true =>
  rw [hv] at e1 e2
  by_cases hr:0≤a∧a≤(ys.length:Int) - 1
  ·obtain ⟨i,rfl⟩:=Int.eq_ofNat_of_zero_le hr.1
   have hi:i < ys.length:=by omega
   have ht:(decide (0≤(i:Int)) && decide ((i:Int)≤(ys.length:Int) - 1))=true:=by simp [hr.2]
   have hw2:wrap64 ((i:Int)+1)=((i+1:Nat):Int):=w64s (by omega)
   have hd:delete_f ys (i:Int) ((i+1:Nat):Int)=some (ys.eraseIdx i):=by
    unfold delete_f
    rw [if_pos ⟨by omega,by omega,by omega⟩,Int.toNat_natCast]
   rw [ht,hw2]
   refine ⟨ys.eraseIdx i,true,?_,?_,List.length_eraseIdx_le ys i,fun y hy=>List.mem_of_mem_eraseIdx hy⟩
   ·refine Evt.bind e1 (Evt.pos rfl (Evt.bindc rfl (Evt.pos rfl (Evt.bind (copy_pr ys hl hc) (Evt.bindc rfl (Evt.pos (by omega) (Evt.pos (by omega) (Evt.bindc rfl (Evt.pos ?_ (Evt.bindc rfl (Evt.pos (by omega) (Evt.pos (by omega) (Evt.bindc rfl (Evt.pos ?_ ((Evt.ret _).cast ?_)))))))))))))))
    ·simp;omega
    ·simp;omega
    ·rw [List.eraseIdx_eq_take_drop_succ];simp
   ·refine Evt.bind e2 (Evt.pos rfl (Evt.bindc rfl (Evt.step ?_)))
    simp only [impl_WithoutConstraint.j0]
    rw [hw2]
    exact Evt.neg (by decide) (Evt.bind (clone_pr ys hl hc) (Evt.bindc hd (Evt.ret _)))
  ·have ht:(decide (0≤a) && decide (a≤(ys.length:Int) - 1))=false:=by
    by_cases h0:0≤a
    ·simp [h0];omega
    ·simp [h0]
   rw [ht]
   exact ⟨[],false,Evt.bind e1 (Evt.pos rfl (Evt.bindc rfl (Evt.neg zff (Evt.ret _)))),Evt.bind e2 (Evt.pos rfl (Evt.bindc rfl bad)),Nat.zero_le _,fun y hy=>by simp at hy⟩
end Go.Proofs.Yteolnmoomeenbaa.F
namespace Go.Proofs.Yteolnmoomeenbaa.Pure
open Go Go.RowKit YteolnmoomeenbaaW.PrintWords Yteolnmoomeenbaa.Pl Yteolnmoomeenbaa.F Yteolnmoomeenbaa.A Yteolnmoomeenbaa.Ext Yteolnmoomeenbaa.BtFnExactWithoutConstraint
theorem rxOk_of (n:Nat):∀ x:S52,wf52N n x→RxOk n x:=by
 induction n with
 | zero=>intro x h;exact h.elim
 | succ n ih=>intro x h;exact ⟨h.2.1,h.2.2.1,fun a ha=>ih a (h.2.2.2 a ha)⟩
theorem csOk_of (x:S54) (h:wf54 x):CsOk x:=by
 obtain ⟨_,h1,h2,⟨n,h3⟩,h4,_⟩:=h
 exact ⟨h1,h2,⟨n,rxOk_of n _ h3⟩,h4.1⟩
theorem eqProblem_self (ys:List S46) (h1:ys.length≤1048576) (h2:∀ y ∈ ys,CsSm y):Evt (fun k=>laws_eqProblem.f k ys ys) true:=by
 simp only [laws_eqProblem.f]
 exact Evt.bind (eqCsS_ev ys h1 h2) (Evt.pos rfl (Evt.ret _))
theorem FnExactWithoutConstraint:FnExactWithoutConstraint.Pure:=by
 intro l n hl hn
 refine Evt.get (g:=fun k=>laws_FnExactWithoutConstraint.f k l n) ?_
 simp only [laws_FnExactWithoutConstraint.f]
 obtain ⟨t,ht,hs⟩:=szProblem_ev l hl.1 (fun x hx=>csOk_of x (hl.2 x hx)) 1048576 (by omega) (by omega)
 rcases hs with rfl|⟨h0,h1,ys,hv⟩
 ·exact Evt.bind ht (Evt.pos (by decide) (Evt.ret _))
 have q1:=toProblem_ev hv
 obtain ⟨r,b,r1,r2,r3,r4⟩:=without_ev ys hv.1 hv.2.1 n
 have hl2:r.length≤1048576:=Nat.le_trans r3 hv.1
 have hs2:∀ y ∈ r,CsSm y:=fun y hy=>hv.2.1 y (r4 y hy)
 obtain ⟨mk,hk⟩:=mark_some ys hv.1 hv.2.1
 obtain ⟨m,hm⟩:=mark_some r hl2 hs2
 obtain ⟨k0,_⟩:=held_m ys mk hk
 obtain ⟨m0,hh⟩:=held_m r m hm
 exact Evt.bind ht (Evt.neg (by omega) (Evt.bind q1 (Evt.bind r1 (Evt.bind r2 (Evt.bind (eqProblem_self r hl2 hs2) (Evt.bind (eqProblem_ev hv) (Evt.bindc hk (Evt.bindc hm (Evt.bind hh (Evt.pos ⟨rfl,rfl,k0,m0,rfl,rfl⟩ (Evt.ret _)))))))))))
end Go.Proofs.Yteolnmoomeenbaa.Pure
namespace Go.Proofs.Yteolnmoomeenbaa.fnExactWithoutConstraint
open Go.ChangeShapes Go.WideShapes Go.ChangeAt Go.RowKit Yteolnmoomeenbaa.Br YteolnmoomeenbaaW.PrintWords Yteolnmoomeenbaa.A Yteolnmoomeenbaa.Ext Yteolnmoomeenbaa.BtFnExactWithoutConstraint
open Go.ChangeMaps (open_string shut_string)
theorem own:ownKnob Try.prog.godebug=none:=by kernel_rfl
theorem laidOut:laidOutB Try.prog=true:=by kernel_rfl
set_option maxHeartbeats 2000000 in
theorem lifted (os:Os) (started:os.Started) (H:Type) (enc:TypeId × Value→H) :
  ReturnsInHanded {} Try.checked os 3 .any (Rows.fnExactWithoutConstraintSpec.pre6 enc Try.prog Try.f3 Rows.fnExactWithoutConstraintRow.domain false) (Rows.fnExactWithoutConstraintSpec.post enc Try.prog Try.f3 false true false false):=by
 refine returnsInHanded_of_change_sized (C:=Try.checked) own started (by kernel_rfl) Try.func3
  (ChangeSpec.witness6 (enc:=enc) (C:=Try.checked) false ⟨#[],#[.agg #[.slice none 0 0],.int .i64 0],[]⟩ 8 (by kernel_rfl) (by kernel_rfl) (by kernel_rfl) (by kernel_rfl)) ?_
 intro W base args ds gs before hval0 hW hcnd hsz0 _
 have hval:∀ (j:Nat) t v,Try.f3.params[j]? = some t→args[j]? = some v→Value.okWide Try.prog W .any base t v:=hval0
 have hW':=hW
 obtain ⟨p,q,hA0,hV,rfl,hfz,hnd⟩:=hW
 have hA:DataW.TrodAll enc Try.prog W 0 (fun _=>true) true Try.f3.params.toList args.toList ds p:=hA0
 rw [Try.params3] at hA hval
 obtain ⟨v0,vs0,d0,ds0,p0,q0,hargs,rfl,rfl,h0,r0⟩:=trodAll_cons hA
 obtain ⟨v1,vs1,d1,ds1,p1,q1,rfl,rfl,rfl,h1,r1⟩:=trodAll_cons r0
 obtain ⟨rfl,rfl,rfl⟩:=trodAll_nil r1
 obtain rfl:args = #[v0,v1]:=by cases args;simp_all
 obtain ⟨rfl,rfl⟩:=trodVars_none hV
 have k0:=h0
 have lt0:∀ x ∈ p0,x.block < W.heap.size:=by obtain ⟨m,hm⟩:=k0;exact DataW.trod_lt m _ _ _ hm
 obtain ⟨arr0,rfl,_,_⟩:∃ cs,v0 = .agg cs∧cs.size=Try.prog.cellsOf 24∧Row.okWide Try.prog W .any base 24 cs:=by have z:=(hval 0 24 v0 rfl rfl);unfold Value.okWide at z;rw [Try.underlying24] at z;exact z
 obtain ⟨fuel0,hf0⟩:=h0
 obtain ⟨l0_0,hK0,hw0⟩:=(show ∀ n,BrN Try.prog n 24 _ _ from fun n=>(br_struct' Try.underlying24 (show Try.prog.cellsOf 24=1 by kernel_rfl) (fun n=>(bf_one rfl (show Try.prog.cellsOf 22=1 by kernel_rfl) (br_slice' Try.underlying22 (show Try.prog.cellsOf 54=8 by kernel_rfl) (fun n=>(br54 n)) n))) n)) fuel0 H enc W 0 (fun _=>true) true fuel0 _ _ (Nat.le_refl _) hf0
 replace hw0:=hw0
 have w0_0:=hw0
 obtain ⟨cs0,hcs0,hK0⟩:∃ cs,(Value.agg arr0).cells.toList=cs∧_:=⟨_,rfl,hK0⟩
 obtain ⟨A0_0,c0_0,rfl,hc0_0,hr0_0⟩:=hK0
 obtain rfl:arr0 = #[.slice A0_0 l0_0.length c0_0]:=arr_of hcs0
 have k1:=h1
 have lt1:∀ x ∈ p1,x.block < W.heap.size:=by obtain ⟨m,hm⟩:=k1;exact DataW.trod_lt m _ _ _ hm
 obtain ⟨a1,rfl,rfl,rfl,w1⟩:=open_int Try.underlying3 (hval 1 3 v1 rfl rfl) h1
 clear hA0 hval0 hsz0
 obtain ⟨k,hp⟩:=Pure.FnExactWithoutConstraint l0_0 a1 w0_0 w1
 refine (laws_FnExactWithoutConstraint.calls k _ _ l0_0 a1 true W hr0_0 hc0_0 hp rfl).mono fun e W' ⟨he,bel0⟩ => ?_
 subst he
 have bel:Below W.heap.size W W':=bel0
 exact ⟨_,rfl,_,_,_,[],_,[],hW',trodAll_mk1 (shut_bool Try.underlying4 _),(trodAll_cons_mk (Below.trod laidOut (by kernel_rfl) (of_decide_eq_true (by kernel_rfl)) k0 bel lt0) (trodAll_cons_mk (Below.trod laidOut (by kernel_rfl) (of_decide_eq_true (by kernel_rfl)) k1 bel lt1) trodAll_mk0)),rfl,bel.frame _,fun h=>by cases h⟩
theorem fact0:(Rows.fnExactWithoutConstraintRow.inPlace == Try.pinned.checked.prog.inPlace 3)=true:=by kernel_rfl
theorem fact1:(Rows.fnExactWithoutConstraintRow.unfollowed == Try.pinned.checked.prog.unfollowed 3)=true:=by kernel_rfl
theorem fact2:(Rows.fnExactWithoutConstraintRow.recurses == Try.pinned.checked.prog.recurses 3)=true:=by kernel_rfl
theorem fact3:(Rows.fnExactWithoutConstraintRow.named == Try.pinned.checked.prog.varsNamed 3)=true:=by kernel_rfl
theorem facts:joinedFacts Try.pinned.checked.prog 3 Try.f3 Rows.fnExactWithoutConstraintSpec Rows.fnExactWithoutConstraintRow=true:=by
 unfold joinedFacts
 rw [fact0,fact1,fact2,fact3]
 kernel_rfl
theorem known:Try.pinned.checked.prog.funcNamed Rows.fnExactWithoutConstraintRow.func=some 3:=by kernel_rfl
theorem inst:Try.f3.isInstance Try.pinned.checked.prog Rows.fnExactWithoutConstraintRow.origin Rows.fnExactWithoutConstraintRow.targs:=of_decide_eq_true (by kernel_rfl)
theorem wrap:Try.f3.isWrapper Try.pinned.checked.prog Rows.fnExactWithoutConstraintRow.wrapper Rows.fnExactWithoutConstraintRow.mainSum:=by unfold Func.isWrapper;first|(rw [if_pos (by decide +kernel)];kernel_rfl)|(rw [if_neg (by decide +kernel)];exact ⟨rfl,rfl⟩)
theorem over:Rows.fnExactWithoutConstraintRow.holds Try.pinned (OpenSpec.ofChange Rows.fnExactWithoutConstraintSpec) :=
 OpenClaim.holds_of_wide 3 Try.f3 rfl rfl rfl rfl rfl rfl rfl ⟨rfl,rfl,rfl,rfl,rfl⟩ rfl rfl rfl rfl rfl known Try.func3 facts inst wrap
  (fun os started H enc _=>lifted os started H enc)
theorem proved:Rows.FnExactWithoutConstraintSaid:=over
#print axioms proved
end Go.Proofs.Yteolnmoomeenbaa.fnExactWithoutConstraint
namespace Go.Proofs.Yteolnmoomeenbaa
theorem fnExactWithoutConstraint_holds:Rows.FnExactWithoutConstraintSaid:=fnExactWithoutConstraint.proved
end Go.Proofs.Yteolnmoomeenbaa
