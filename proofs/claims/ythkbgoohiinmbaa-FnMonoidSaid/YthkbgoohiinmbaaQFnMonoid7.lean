/- FnMonoid: what its proof needs, put together by this session's program wip/merge.py out of the texts that wip/xp.py printed and of this session's own. -/
import Derived.Test.YthkbgoohiinmbaaQFnMonoid6
import Derived.ChangeArms
import Derived.ChangeReads
import Derived.DataReads
import Derived.DataElems
import Derived.Test.YthkbgoohiinmbaaRows
import Derived.WalkKit
import Derived.ProofKit
import Derived.OpenShut
import Derived.ShutString
import Derived.ChangeOld
import Derived.Below
import Derived.SizedLaws
import Derived.Lib.SmallJoins
set_option linter.unusedVariables false
set_option linter.unusedSimpArgs false
set_option linter.unusedSectionVars false
set_option maxHeartbeats 8000000
set_option maxRecDepth 100000
namespace Go.Proofs.Ythkbgoohiinmbaa.Br
open Go YthkbgoohiinmbaaW.PrintWords
def BrN (P:Program) (n:Nat) (t:TypeId) {α:Type} (d:Kd α) (wf:α→Prop):Prop :=
 ∀ (H:Type) (enc:TypeId × Value→H) (w:World) (base:Nat) (spare:Nat→Bool) (held:Bool) (m:Nat) (cs:List Value) (x:DataW H × List MemPlace),
  m≤n→DataW.trod enc P w base spare held m t cs=some x→∃ a,d.K w a cs∧wf a
def Br (P:Program) (t:TypeId) {α:Type} (d:Kd α) (wf:α→Prop):Prop:=∀ n,BrN P n t d wf
theorem BrN.mono {P:Program} {n m:Nat} {t:TypeId} {α:Type} {d:Kd α} {wf:α→Prop} (h:BrN P n t d wf) (hm:m≤n):BrN P m t d wf :=
 fun H enc w base spare held k cs x hk=>h H enc w base spare held k cs x (Nat.le_trans hk hm)
theorem BrN.imp {P:Program} {n:Nat} {t:TypeId} {α:Type} {d:Kd α} {wf wf':α→Prop} (h:BrN P n t d wf) (hi:∀ a,wf a→wf' a):BrN P n t d wf' :=
 fun H enc w base spare held k cs x hk hx=>by
  obtain ⟨a,h1,h2⟩:=h H enc w base spare held k cs x hk hx
  exact ⟨a,h1,hi a h2⟩
theorem BrN.zero (P:Program) (t:TypeId) {α:Type} (d:Kd α) (wf:α→Prop):BrN P 0 t d wf:=by
 intro H enc w base spare held m cs x hm hx
 obtain rfl:m=0:=by omega
 simp [DataW.trod] at hx
theorem br_int {P:Program} {t:TypeId} {k:IntKind} (ht:P.underlying t=some (.int k)) (n:Nat):BrN P n t (Kd.int k) (fun a=>(Lit.int k a).wf=true):=by
 intro H enc w base spare held m cs x _ hx
 obtain ⟨a,rfl,_,hw⟩:=DataW.trod_int ht hx
 exact ⟨a,rfl,hw⟩
theorem list_of_all {α:Type} {Q:Nat→α→Prop} (n:Nat) (h:∀ i,i < n→∃ a,Q i a):∃ l:List α,l.length=n∧∀ i a,l[i]? = some a→Q i a:=by
 induction n with
 | zero=>exact ⟨[],rfl,fun i a h=>by simp at h⟩
 | succ n ih =>
  obtain ⟨l,hl,hq⟩:=ih (fun i hi=>h i (by omega))
  obtain ⟨a,ha⟩:=h n (by omega)
  refine ⟨l ++ [a],by simp [hl],fun i b hb=>?_⟩
  rcases Nat.lt_or_ge i l.length with hi|hi
  ·rw [List.getElem?_append_left hi] at hb
   exact hq i b hb
  ·rw [List.getElem?_append_right hi] at hb
   obtain ⟨h0,rfl⟩:i - l.length=0∧a=b:=by
    rcases Nat.eq_zero_or_pos (i - l.length) with h0|h0
    ·rw [h0] at hb;exact ⟨h0,by simpa using hb⟩
    ·rw [List.getElem?_eq_none (by simp;omega)] at hb;simp at hb
   obtain rfl:i=n:=by omega
   exact ha
theorem cells_at {w:World} {base:Nat} {a:Addr} {n:Nat} {cs:List Value} (h:w.cells? base a n=some cs):cs.length=n∧∀ i u,cs[i]? = some u→w.cell? (a.add i)=some u:=by
 unfold World.cells? at h
 split at h
 ·have hl:=mapM_some_length h
  refine ⟨by simpa using hl,fun i u hu=>?_⟩
  have hi:i < n:=by
   have:=(List.getElem?_eq_some_iff.1 hu).1
   simp at hl
   omega
  have:=mapM_some_get h i i (by simp [hi])
  rw [this,hu]
 ·simp at h
theorem br_slice {P:Program} {t e:TypeId} {α:Type} {d:Kd α} {wf:α→Prop} {n:Nat} (ht:P.underlying t=some (.slice e)) (hs:P.cellsOf e=d.sz) (h:BrN P n e d wf) :
  BrN P (n+1) t (Kd.slice e d) (fun l=>l.length≤9223372036854775807∧∀ a ∈ l,wf a):=by
 intro H enc w base spare held m cs x hm hx
 rcases DataW.trod_slice ht hx with ⟨rfl,_⟩|⟨a,len,cap,elems,rest,k,rfl,rfl,_,_,hl,hc,he,hg,_,_⟩
 ·exact ⟨[],⟨none,0,rfl,Nat.le_refl _,Kd.C_nil d w⟩,by simp,by simp⟩
 ·have hq:∀ i,i < len→∃ b,(∃ c,c.length=d.sz∧d.K w b c∧∀ j u,c[j]? = some u→w.cell? (a.add (i * d.sz+j))=some u)∧wf b:=by
   intro i hi
   have g:=hg i hi
   rw [List.getElem?_eq_getElem (by omega)] at g
   obtain ⟨c,hc1,hc2⟩:=Option.bind_eq_some_iff.1 g
   obtain ⟨b,hb,hw⟩:=h H enc w base spare held k c _ (by omega) hc2
   obtain ⟨h1,h2⟩:=cells_at hc1
   refine ⟨b,⟨c,by rw [h1,hs],hb,fun j u hu=>?_⟩,hw⟩
   have:=h2 j u hu
   rw [Addr.add_add,hs] at this
   exact this
  obtain ⟨l,hl1,hl2⟩:=list_of_all len hq
  have hlen:len≤9223372036854775807:=by simp only [maxLen] at hc;omega
  refine ⟨l,⟨some a,cap,by rw [hl1],by omega,rfl,by omega,fun _=>⟨a,rfl,fun j p hp=>(hl2 j p hp).1⟩⟩,by omega,fun b hb=>?_⟩
  obtain ⟨i,hi,rfl⟩:=List.mem_iff_getElem.1 hb
  exact (hl2 i _ (List.getElem?_eq_getElem hi)).2
theorem br_slice' {P:Program} {t e:TypeId} {α:Type} {d:Kd α} {wf:α→Prop} (ht:P.underlying t=some (.slice e)) (hs:P.cellsOf e=d.sz) (h:∀ n,BrN P n e d wf) (n:Nat) :
 BrN P n t (Kd.slice e d) (fun l=>l.length≤9223372036854775807∧∀ a ∈ l,wf a):=(br_slice ht hs (h n)).mono (Nat.le_succ n)
end Go.Proofs.Ythkbgoohiinmbaa.Br
namespace Go.Proofs.Ythkbgoohiinmbaa.Pure
open Go Go.RowKit Ythkbgoohiinmbaa.Br YthkbgoohiinmbaaW.PrintWords YthkbgoohiinmbaaW.PrintLast Ythkbgoohiinmbaa.A Ythkbgoohiinmbaa.Ext
def FnMonoid.Pure:Prop:=∀ (l0:(List Int)),((l0:(List Int)).length≤9223372036854775807∧∀ a ∈ l0,(Lit.int .u8 a).wf=true)→∃ k,laws_FnMonoid.f k l0=some true
end Go.Proofs.Ythkbgoohiinmbaa.Pure
namespace Go.Proofs.Ythkbgoohiinmbaa.F
open Go.RowKit YthkbgoohiinmbaaW.PrintWords Ythkbgoohiinmbaa.Pl Ythkbgoohiinmbaa.A
theorem rows_at (l:List (List Int)) (i:Nat) (h:i < l.length):rd_L3 l (i:Int)=l[i]:=by simp [rd_L3,h]
def RowsLe (l:List (List Int)) (b:Nat):Prop:=l.length≤b∧∀ x ∈ l,x.length≤b
end Go.Proofs.Ythkbgoohiinmbaa.F
namespace Go.Proofs.Ythkbgoohiinmbaa.F
open Go.RowKit YthkbgoohiinmbaaW.PrintWords Ythkbgoohiinmbaa.Pl Ythkbgoohiinmbaa.A Ythkbgoohiinmbaa.Ext
def RowsWf (l:List (List Int)):Prop:=l.length≤9223372036854775807∧∀ x ∈ l,x.length≤9223372036854775807
theorem RowsLe.wf {l:List (List Int)} (h:RowsLe l 1048576):RowsWf l:=⟨by have:=h.1;omega,fun x hx=>by have:=h.2 x hx;omega⟩
end Go.Proofs.Ythkbgoohiinmbaa.F
namespace Go.Proofs.Ythkbgoohiinmbaa.F
open Go Go.RowKit YthkbgoohiinmbaaW.PrintWords Ythkbgoohiinmbaa.Pl Ythkbgoohiinmbaa.A Ythkbgoohiinmbaa.Ext
theorem df_l1In (a lo hi:Int):spec_l1In.f a lo hi=some (decide (lo≤a∧a≤hi)):=by
 unfold spec_l1In.f
 by_cases h:a ≥ lo
 ·rw [if_pos h]
  congr 1
  exact decide_eq_decide.2 ⟨fun h'=>⟨h,h'⟩,fun h'=>h'.2⟩
 ·rw [if_neg h]
  congr 1
  exact (decide_eq_false (fun h'=>h h'.1)).symm
theorem spec_IsValidDfa_ev (A:List Bool) (P:List (List Int)) (hA:A.length≤9223372036854775807) (hw:∀ r ∈ P,r.length≤9223372036854775807):Evt (fun k=>spec_IsValidDfa.f k A P) (dfaB A P):=by
 simp only [spec_IsValidDfa.f]
 unfold dfaB
 have hbad:Evt (fun k=>spec_IsValidDfa.j0 k (A.length:Int) true A P) false:=by
  refine Evt.step ?_
  simp only [spec_IsValidDfa.j0]
  exact Evt.pos trivial (Evt.ret _)
 by_cases h1:1≤A.length∧A.length≤40
 ·refine Evt.bindc (df_l1In _ _ _) (Evt.pos (by simp;omega) ?_)
  by_cases h2:P.length=A.length
  ·rw [show ((P.length:Int) != (A.length:Int))=false by rw [h2];exact bne_self_eq_false _]
   refine Evt.step ?_
   simp only [spec_IsValidDfa.j0]
   refine Evt.neg (by decide) ?_
   have hh:=Evt.up (fun k i=>spec_IsValidDfa.l0 k (A.length:Int) i A P) A.length (fun i=>(P.drop i).all (dfRow A.length)) ?_ ?_
   ·exact hh.cast (by simp [h1,h2])
   ·refine Evt.step ?_
    simp only [spec_IsValidDfa.l0]
    rw [List.drop_of_length_le (by omega)]
    exact Evt.neg (by omega) (Evt.ret _)
   ·intro i hi hn
    have hi':i < P.length:=by omega
    have hrow:rd_L3 P (i:Int)=P[i]:=by simp [rd_L3,hi']
    have hlen:=hw _ (List.getElem_mem hi')
    refine Evt.step ?_
    simp only [spec_IsValidDfa.l0]
    rw [List.drop_eq_getElem_cons hi',List.all_cons,hrow]
    refine Evt.pos (by omega) (Evt.pos (by omega) (Evt.pos (by omega) ?_))
    by_cases h3:P[i].length=3
    ·refine Evt.pos (by omega) ?_
     have hin:=Evt.up (fun k j=>spec_IsValidDfa.l1 k (A.length:Int) (i:Int) j A P) P[i].length (fun j=>(P[i].drop j).all (dfIn A.length) && (P.drop (i+1)).all (dfRow A.length)) ?_ ?_
     ·exact hin.cast (by simp [dfRow,h3])
     ·refine Evt.step ?_
      simp only [spec_IsValidDfa.l1]
      rw [hrow,w64s (i:=i) (by omega),List.drop_of_length_le (Nat.le_refl P[i].length)]
      exact Evt.pos (by omega) (Evt.pos (by omega) (Evt.neg (by omega) (hn.cast (by simp))))
     ·intro j hj hnj
      have hrd:rd P[i] (j:Int)=P[i][j]:=by simp [rd,hj]
      refine Evt.step ?_
      simp only [spec_IsValidDfa.l1]
      rw [hrow,hrd,w64s (i:=j) (by omega),w64 (x:=(A.length:Int) - 1) (by omega) (by omega),List.drop_eq_getElem_cons hj,List.all_cons]
      refine Evt.pos (by omega) (Evt.pos (by omega) (Evt.pos (by omega) (Evt.pos (by omega) (Evt.bindc (df_l1In _ _ _) ?_))))
      have e:dfIn A.length P[i][j]=decide (0≤P[i][j]∧P[i][j]≤(A.length:Int) - 1):=by
       unfold dfIn
       by_cases q1:0≤P[i][j] <;> by_cases q2:P[i][j]≤(A.length:Int) - 1 <;> simp [q1,q2]
      rw [e]
      by_cases q:0≤P[i][j]∧P[i][j]≤(A.length:Int) - 1
      ·exact Evt.pos (decide_eq_true q) (hnj.cast (by simp [q]))
      ·exact Evt.neg (by simpa using q) ((Evt.ret _).cast (by simp [q]))
    ·exact Evt.neg (by omega) ((Evt.ret _).cast (by simp [dfRow,h3]))
  ·rw [show ((P.length:Int) != (A.length:Int))=true from bne_iff_ne.mpr (by omega)]
   exact hbad.cast (by simp [h2])
 ·exact Evt.bindc (df_l1In _ _ _) (Evt.neg (by simp;omega) (hbad.cast (by simp [h1])))
/-! What a row's number in a table is. -/
theorem numOf_spec {P:List (List Int)} {x:List Int} (h:x ∈ P):∃ i:Nat,i < P.length∧numOf P x=(i:Int)∧P.getD i []=x∧∀ j,j < i→P.getD j [] ≠ x:=by
 unfold numOf idxN
 cases hf:(List.range P.length).find? (fun i=>decide (x=P.getD i [])) with
 | none =>
  obtain ⟨i,hi,e⟩:=List.getElem_of_mem h
  have:=List.find?_eq_none.1 hf i (List.mem_range.2 hi)
  exact absurd (by simp [hi,e]) this
 | some i =>
  obtain ⟨h1,h2,h3⟩:=List.find?_range_eq_some.1 hf
  refine ⟨i,List.mem_range.1 h2,rfl,(of_decide_eq_true h1).symm,fun j hj e=>?_⟩
  have:=h3 j hj
  rw [decide_eq_true e.symm] at this
  exact absurd this (by decide)
theorem numOf_none {P:List (List Int)} {x:List Int} (h:x ∉ P):numOf P x = -1:=by
 refine idxN_miss _ _ (fun j hj=>decide_eq_false (fun e=>h ?_))
 rw [e,List.getD_eq_getElem?_getD,List.getElem?_eq_getElem hj]
 exact List.getElem_mem hj
theorem numOf_neg {P:List (List Int)} {x:List Int} : numOf P x < 0 ↔ x ∉ P:=by
 constructor
 ·intro h hm
  obtain ⟨i,_,e,_⟩:=numOf_spec hm
  omega
 ·intro h
  rw [numOf_none h]
  omega
theorem numOf_append {P t:List (List Int)} {x:List Int} (h:x ∈ P):numOf (P ++ t) x=numOf P x:=by
 obtain ⟨i,hi,e,h1,h2⟩:=numOf_spec h
 have hg:∀ j,j < P.length→(P ++ t).getD j []=P.getD j []:=fun j hj=>by
  rw [List.getD_eq_getElem?_getD,List.getD_eq_getElem?_getD,List.getElem?_append_left hj]
 rw [e]
 exact idxN_hit _ _ i (by rw [List.length_append];omega) (fun j hj=>decide_eq_false (fun q=>h2 j hj (by rw [← hg j (by omega)];exact q.symm))) (decide_eq_true (by rw [hg i hi,h1]))
theorem find_ev (P:List (List Int)) (x:List Int) (hP:P.length≤1000000) (hw:∀ r ∈ P,r.length≤1000000):Evt (fun k=>spec_l13Find.f k P x) (numOf P x):=by
 simp only [spec_l13Find.f]
 have h:∀ d j:Nat,j+d=P.length→(∀ i,i < j→P.getD i [] ≠ x)→Evt (fun k=>spec_l13Find.l0 k P x (j:Int)) (numOf P x):=by
  intro d
  induction d with
  | zero =>
   intro j hj hn
   refine Evt.step ?_
   simp only [spec_l13Find.l0]
   refine Evt.neg (by omega) ((Evt.ret _).cast ?_)
   exact (idxN_miss _ _ (fun i hi=>decide_eq_false (fun e=>hn i (by omega) e.symm))).symm
  | succ d ih =>
   intro j hj hn
   refine Evt.step ?_
   simp only [spec_l13Find.l0]
   have hm:j < P.length:=by omega
   rw [rows_at P j hm,w64s (by omega)]
   have hg:P.getD j []=P[j]:=by rw [List.getD_eq_getElem?_getD,List.getElem?_eq_getElem hm];rfl
   have hl:=hw _ (List.getElem_mem hm)
   refine Evt.pos (by omega) (Evt.pos (by omega) (Evt.bind (l5Ints_ev P[j] x (by omega)) ?_))
   by_cases e:P[j]=x
   ·refine Evt.pos (decide_eq_true e) ((Evt.ret _).cast ?_)
    exact (idxN_hit _ _ j hm (fun i hi=>decide_eq_false (fun q=>hn i hi q.symm)) (decide_eq_true (by rw [hg,e]))).symm
   ·refine Evt.neg (by simp [e]) (ih (j+1) (by omega) (fun i hi=>?_))
    by_cases q:i=j
    ·rw [q,hg]
     exact e
    ·exact hn i (by omega)
 exact h P.length 0 (by omega) (fun i hi=>absurd hi (Nat.not_lt_zero _))
def GoodR (n:Nat) (r:List Int):Prop:=r.length=n∧∀ q ∈ r,0≤q∧q < (n:Int)
def aft (x y:List Int):List Int:=x.map (fun q=>rd y q)
def colX (X:List (List Int)) (c:Nat):List Int:=X.map (fun r=>rd r (c:Int))
theorem rd_in (l:List Int) (q:Int) (h0:0≤q) (h1:q < (l.length:Int)):rd l q ∈ l:=by
 unfold rd
 rw [List.getD_eq_getElem?_getD,List.getElem?_eq_getElem (by omega)]
 exact List.getElem_mem _
theorem rows_in (l:List (List Int)) (q:Int) (h0:0≤q) (h1:q < (l.length:Int)):rd_L3 l q ∈ l:=by
 unfold rd_L3
 rw [List.getD_eq_getElem?_getD,List.getElem?_eq_getElem (by omega)]
 exact List.getElem_mem _
theorem aft_good {n:Nat} {x y:List Int} (hx:GoodR n x) (hy:GoodR n y):GoodR n (aft x y):=by
 refine ⟨by rw [aft,List.length_map];exact hx.1,fun q hq=>?_⟩
 obtain ⟨p,hp,rfl⟩:=List.mem_map.1 hq
 have:=hx.2 p hp
 exact hy.2 _ (rd_in y p this.1 (by rw [hy.1];exact this.2))
structure DfaX (n : Nat) (X : List (List Int)) : Prop where
 len:X.length=n
 lo:1≤n
 hi:n≤40
 row:∀ r ∈ X,r.length=3∧∀ q ∈ r,0≤q∧q < (n:Int)
theorem dfaX_of {A:List Bool} {X:List (List Int)} (h:dfaB A X=true):DfaX A.length X:=by
 unfold dfaB at h
 simp only [Bool.and_eq_true,decide_eq_true_eq,List.all_eq_true] at h
 obtain ⟨h1,h2,h3⟩:=h
 refine ⟨h2,h1.1,h1.2,fun r hr=>?_⟩
 have:=h3 r hr
 unfold dfRow at this
 simp only [Bool.and_eq_true,decide_eq_true_eq,List.all_eq_true] at this
 refine ⟨this.1,fun q hq=>?_⟩
 have:=this.2 q hq
 unfold dfIn at this
 simp only [Bool.and_eq_true,decide_eq_true_eq] at this
 omega
theorem col_good {n:Nat} {X:List (List Int)} (hX:DfaX n X) (c:Nat) (hc:c < 3):GoodR n (colX X c):=by
 refine ⟨by rw [colX,List.length_map];exact hX.len,fun q hq=>?_⟩
 obtain ⟨r,hr,rfl⟩:=List.mem_map.1 hq
 have:=hX.row r hr
 exact this.2 _ (rd_in r _ (by omega) (by rw [this.1];omega))
theorem rd_col {X:List (List Int)} (c:Nat) (q:Int) (h0:0≤q) (h1:q < (X.length:Int)):rd (colX X c) q=rd (rd_L3 X q) (c:Int):=by
 conv=>lhs;unfold rd
 unfold rd_L3 colX
 have h:q.toNat < X.length:=by omega
 simp [List.getD_eq_getElem?_getD,List.getElem?_eq_getElem h]
theorem after_ev {n:Nat} (x y:List Int) (hn:n≤40) (hx:GoodR n x) (hy:y.length=n):Evt (fun k=>spec_l13After.f k x y) (aft x y):=by
 simp only [spec_l13After.f]
 have h:∀ d j:Nat,j+d=x.length→Evt (fun k=>spec_l13After.l0 k x y ((x.take j).map (fun q=>rd y q)) (j:Int)) (aft x y):=by
  intro d
  induction d with
  | zero =>
   intro j hj
   refine Evt.step ?_
   simp only [spec_l13After.l0]
   refine Evt.neg (by omega) ((Evt.ret _).cast ?_)
   rw [List.take_of_length_le (by omega)]
   rfl
  | succ d ih =>
   intro j hj
   have hm:j < x.length:=by omega
   refine Evt.step ?_
   simp only [spec_l13After.l0]
   have hq:=hx.2 _ (List.getElem_mem hm)
   have hl:=hx.1
   rw [rd_at x j hm,w64s (by omega)]
   have h1:=ih (j+1) (by omega)
   rw [List.take_succ_eq_append_getElem hm,List.map_append] at h1
   refine Evt.pos (by omega) (Evt.pos (by omega) (Evt.pos (by omega) (Evt.pos (by omega) (Evt.pos ?_ h1))))
   rw [List.length_map,List.length_take]
   omega
 exact h x.length 0 (by omega)
theorem letters_ev {n:Nat} (A:List Bool) (X:List (List Int)) (hX:DfaX n X):Evt (fun k=>spec_l13Letters.f k A X) [colX X 0,colX X 1,colX X 2]:=by
 simp only [spec_l13Letters.f]
 have hlen:=hX.len
 have hhi:=hX.hi
 have hin:∀ (acc:List (List Int)) (c:Nat) (r:List (List Int)),c < 3→acc.length < 3→Evt (fun k=>spec_l13Letters.l0 k (acc ++ [colX X c]) ((c+1:Nat):Int) A X) r→Evt (fun k=>spec_l13Letters.l1 k acc (c:Int) [] 0 A X) r:=by
  intro acc c r hc hacc hr
  have h:∀ d j:Nat,j+d=X.length→Evt (fun k=>spec_l13Letters.l1 k acc (c:Int) ((X.take j).map (fun r=>rd r (c:Int))) (j:Int) A X) r:=by
   intro d
   induction d with
   | zero =>
    intro j hj
    refine Evt.step ?_
    simp only [spec_l13Letters.l1]
    rw [List.take_of_length_le (by omega),w64s (i:=c) (by omega)]
    exact Evt.neg (by omega) (Evt.pos (by omega) hr)
   | succ d ih =>
    intro j hj
    have hm:j < X.length:=by omega
    have h3:=(hX.row _ (List.getElem_mem hm)).1
    have h1:=ih (j+1) (by omega)
    rw [List.take_succ_eq_append_getElem hm,List.map_append] at h1
    refine Evt.step ?_
    simp only [spec_l13Letters.l1]
    rw [rows_at X j hm,w64s (by omega)]
    refine Evt.pos (by omega) (Evt.pos (by omega) (Evt.pos (by omega) (Evt.pos (by omega) (Evt.pos ?_ h1))))
    rw [List.length_map,List.length_take]
    omega
  exact h X.length 0 (by omega)
 refine Evt.step ?_
 simp only [spec_l13Letters.l0]
 refine Evt.pos (by omega) (hin [] 0 _ (by omega) (by simp) (Evt.step ?_))
 simp only [spec_l13Letters.l0]
 refine Evt.pos (by omega) (hin _ 1 _ (by omega) (by simp) (Evt.step ?_))
 simp only [spec_l13Letters.l0]
 refine Evt.pos (by omega) (hin _ 2 _ (by omega) (by simp) (Evt.step ?_))
 simp only [spec_l13Letters.l0]
 exact Evt.neg (by omega) (Evt.ret _)
/-! The table of products. -/
def tabRow (P:List (List Int)) (x:List Int):List Int:=P.map (fun y=>numOf P (aft x y))
section
variable {n : Nat} {P : List (List Int)} {L : List Int} (hn : n ≤ 40) (hP : P.length ≤ 30) (hG : ∀ r ∈ P, GoodR n r)
include hn hP hG
theorem spec_tab (D:List (List Int)) (a:Nat) (ha:a+D.length≤60) (hh:a < P.length) {r:List (List Int) × List Int × List (List Int) × Bool} (hr:Evt (fun k=>spec_BuildMonoid.l4 k ((a+1:Nat):Int) P L (D ++ [tabRow P P[a]])) r):Evt (fun k=>spec_BuildMonoid.l5 k (a:Int) [] 0 P L D) r:=by
 have h:∀ d j:Nat,j+d=P.length→Evt (fun k=>spec_BuildMonoid.l5 k (a:Int) ((P.take j).map (fun y=>numOf P (aft P[a] y))) (j:Int) P L D) r:=by
  intro d
  induction d with
  | zero =>
   intro j hj
   refine Evt.step ?_
   simp only [spec_BuildMonoid.l5]
   rw [List.take_of_length_le (by omega),w64s (i:=a) (by omega)]
   exact Evt.neg (by omega) (Evt.pos (by omega) hr)
  | succ d ih =>
   intro j hj
   have hm:j < P.length:=by omega
   have h1:=ih (j+1) (by omega)
   rw [List.take_succ_eq_append_getElem hm,List.map_append] at h1
   refine Evt.step ?_
   simp only [spec_BuildMonoid.l5]
   rw [rows_at P j hm,rows_at P a hh,w64s (i:=j) (by omega)]
   refine Evt.pos (by omega) (Evt.pos (by omega) (Evt.pos (by omega) (Evt.pos (by omega) (Evt.bind (after_ev P[a] P[j] hn (hG _ (List.getElem_mem hh)) (hG _ (List.getElem_mem hm)).1) (Evt.bind (find_ev P _ (by omega) (fun r hr=>by have:=(hG r hr).1;omega)) (Evt.pos ?_ h1))))))
   rw [List.length_map,List.length_take]
   omega
 exact h P.length 0 (by omega)
theorem spec_tabs:∀ (d a:Nat),a+d=P.length→Evt (fun k=>spec_BuildMonoid.l4 k (a:Int) P L ((P.take a).map (tabRow P))) (P,L,P.map (tabRow P),true):=by
 intro d
 induction d with
 | zero =>
  intro a ha
  refine Evt.step ?_
  simp only [spec_BuildMonoid.l4]
  rw [List.take_of_length_le (by omega)]
  exact Evt.neg (by omega) (Evt.ret _)
 | succ d ih =>
  intro a ha
  have hm:a < P.length:=by omega
  have h1:=ih (a+1) (by omega)
  rw [List.take_succ_eq_append_getElem hm,List.map_append] at h1
  refine Evt.step ?_
  simp only [spec_BuildMonoid.l4]
  exact Evt.pos (by omega) (spec_tab hn hP hG _ a (by rw [List.length_map,List.length_take];omega) hm h1)
theorem impl_cell (D:List (List Int)) (a b:Nat) (row:List Int) (hb:b < P.length) (hrow:row.length≤60) (x:List Int) (hx:GoodR n x) {r:BmR} (hr:Evt (fun k=>impl_BuildMonoid.l6 k P L D (a:Int) x (row ++ [numOf P (aft x P[b])]) ((b+1:Nat):Int)) r):Evt (fun k=>impl_BuildMonoid.l7 k P L D (a:Int) x row (b:Int) P[b] [] 0) r:=by
 have h:∀ d j:Nat,j+d=x.length→Evt (fun k=>impl_BuildMonoid.l7 k P L D (a:Int) x row (b:Int) P[b] ((x.take j).map (fun q=>rd P[b] q)) (j:Int)) r:=by
  intro d
  induction d with
  | zero =>
   intro j hj
   refine Evt.step ?_
   simp only [impl_BuildMonoid.l7]
   rw [List.take_of_length_le (by omega),w64s (i:=b) (by omega)]
   exact Evt.neg (by omega) (Evt.pos (by omega) hr)
  | succ d ih =>
   intro j hj
   have hm:j < x.length:=by omega
   have hq:=hx.2 _ (List.getElem_mem hm)
   have hl:=hx.1
   have hy:=(hG _ (List.getElem_mem hb)).1
   have h1:=ih (j+1) (by omega)
   rw [List.take_succ_eq_append_getElem hm,List.map_append] at h1
   refine Evt.step ?_
   simp only [impl_BuildMonoid.l7]
   rw [rd_at x j hm,w64s (i:=j) (by omega)]
   refine Evt.pos (by omega) (Evt.pos (by omega) (Evt.pos (by omega) (Evt.pos (by omega) (Evt.pos ?_ h1))))
   rw [List.length_map,List.length_take]
   omega
 exact h x.length 0 (by omega)
theorem impl_row (D:List (List Int)) (a:Nat) (ha:a < P.length) (hD:D.length≤60) {r:BmR} (hr:Evt (fun k=>impl_BuildMonoid.l5 k P L (D ++ [tabRow P P[a]]) ((a+1:Nat):Int)) r):Evt (fun k=>impl_BuildMonoid.l6 k P L D (a:Int) P[a] [] 0) r:=by
 have h:∀ d j:Nat,j+d=P.length→Evt (fun k=>impl_BuildMonoid.l6 k P L D (a:Int) P[a] ((P.take j).map (fun y=>numOf P (aft P[a] y))) (j:Int)) r:=by
  intro d
  induction d with
  | zero =>
   intro j hj
   refine Evt.step ?_
   simp only [impl_BuildMonoid.l6]
   rw [List.take_of_length_le (by omega),w64s (i:=a) (by omega)]
   exact Evt.neg (by omega) (Evt.pos (by omega) hr)
  | succ d ih =>
   intro j hj
   have hm:j < P.length:=by omega
   have h1:=ih (j+1) (by omega)
   rw [List.take_succ_eq_append_getElem hm,List.map_append] at h1
   refine Evt.step ?_
   simp only [impl_BuildMonoid.l6]
   rw [rows_at P j hm]
   exact Evt.pos (by omega) (Evt.pos (by omega) (impl_cell hn hP hG D a j _ hm (by rw [List.length_map,List.length_take];omega) P[a] (hG _ (List.getElem_mem ha)) h1))
 exact h P.length 0 (by omega)
theorem impl_tabs:∀ (d a:Nat),a+d=P.length→Evt (fun k=>impl_BuildMonoid.l5 k P L ((P.take a).map (tabRow P)) (a:Int)) (P,L,P.map (tabRow P),true):=by
 intro d
 induction d with
 | zero =>
  intro a ha
  refine Evt.step ?_
  simp only [impl_BuildMonoid.l5]
  rw [List.take_of_length_le (by omega)]
  exact Evt.neg (by omega) (Evt.ret _)
 | succ d ih =>
  intro a ha
  have hm:a < P.length:=by omega
  have h1:=ih (a+1) (by omega)
  rw [List.take_succ_eq_append_getElem hm,List.map_append] at h1
  refine Evt.step ?_
  simp only [impl_BuildMonoid.l5]
  rw [rows_at P a hm]
  exact Evt.pos (by omega) (Evt.pos (by omega) (impl_row hn hP hG _ a hm (by rw [List.length_map,List.length_take];omega) h1))
end
/-! The rounds over the maps. -/
theorem if_len (i:Nat) (L:List Int) (x:Int) (b:Nat) (h:L.length≤b):(if i=0 then L ++ [x] else L).length≤b+1:=by
 by_cases q:i=0
 ·rw [if_pos q,List.length_append,List.length_singleton];omega
 ·rw [if_neg q];omega
def addM (P:List (List Int)) (r:List Int):List (List Int):=if numOf P r < 0 then P ++ [r] else P
theorem addM_mem (P:List (List Int)) (r:List Int):r ∈ addM P r:=by
 unfold addM
 by_cases h:numOf P r < 0
 ·rw [if_pos h];simp
 ·rw [if_neg h]
  exact Decidable.byContradiction (fun q=>h (numOf_neg.2 q))
theorem addM_ext (P:List (List Int)) (r:List Int):∃ t,addM P r=P ++ t∧t.length≤1∧∀ x ∈ t,x=r:=by
 unfold addM
 by_cases h:numOf P r < 0
 ·exact ⟨[r],by rw [if_pos h],by simp,by simp⟩
 ·exact ⟨[],by rw [if_neg h,List.append_nil],by simp,by simp⟩
theorem addM_good {n:Nat} {P:List (List Int)} {r:List Int} (hP:∀ x ∈ P,GoodR n x) (hr:GoodR n r):∀ x ∈ addM P r,GoodR n x:=by
 obtain ⟨t,e,_,ht⟩:=addM_ext P r
 rw [e]
 intro x hx
 rcases List.mem_append.1 hx with h|h
 ·exact hP x h
 ·rw [ht x h];exact hr
theorem addM_len (P:List (List Int)) (r:List Int):P.length≤(addM P r).length∧(addM P r).length≤P.length+1:=by
 obtain ⟨t,e,h1,_⟩:=addM_ext P r
 rw [e,List.length_append]
 omega
theorem addM_at (P:List (List Int)) (r:List Int) (i:Nat) (h:i < P.length):rd_L3 (addM P r) (i:Int)=rd_L3 P (i:Int):=by
 obtain ⟨t,e,_,_⟩:=addM_ext P r
 rw [e,rows_at _ i (by rw [List.length_append];omega),rows_at P i h,List.getElem_append_left h]
theorem addM_num (P:List (List Int)) (r:List Int) {x:List Int} (h:x ∈ P):numOf (addM P r) x=numOf P x:=by
 obtain ⟨t,e,_,_⟩:=addM_ext P r
 rw [e]
 exact numOf_append h
theorem addM_sub (P:List (List Int)) (r:List Int) {x:List Int} (h:x ∈ P):x ∈ addM P r:=by
 obtain ⟨t,e,_,_⟩:=addM_ext P r
 rw [e]
 exact List.mem_append_left _ h
/-! A full monoid: closed under the letters, the table of products as told. -/
def idR (n:Nat):List Int:=List.map (fun j:Nat=>(j:Int)) (List.range n)
inductive Gen (n : Nat) (X : List (List Int)) : List Int → Prop where
 | id:Gen n X (idR n)
 | step (r:List Int) (c:Nat):Gen n X r→c < 3→Gen n X (aft r (colX X c))
structure FullM (n : Nat) (X : List (List Int)) (q : BmR) : Prop where
 good:∀ r ∈ q.1,GoodR n r
 len:q.1.length≤30
 hd:∃ t,q.1=idR n :: t
 clo:∀ r ∈ q.1,∀ c,c < 3→aft r (colX X c) ∈ q.1
 cols:colX X 0 ∈ q.1∧colX X 1 ∈ q.1∧colX X 2 ∈ q.1
 num:q.2.1 = [numOf q.1 (colX X 0),numOf q.1 (colX X 1),numOf q.1 (colX X 2)]
 tab:q.2.2.1=q.1.map (tabRow q.1)
 gen:∀ r ∈ q.1,Gen n X r
theorem nodup_lenR:∀ (l S:List (List Int)),l.Nodup→(∀ x ∈ l,x ∈ S)→l.length≤S.length
 | [],_,_,_=>Nat.zero_le _
 | a :: l,S,h,hs=>by
  have h1:=List.nodup_cons.1 h
  have ha:=hs a (by simp)
  have:=nodup_lenR l (S.erase a) h1.2 (fun x hx=>(List.mem_erase_of_ne (fun e=>h1.1 (by rw [← e];exact hx))).2 (hs x (by simp [hx])))
  rw [List.length_erase_of_mem ha] at this
  have:=List.length_pos_of_mem ha
  simp only [List.length_cons]
  omega
def allR (m:Nat):Nat→List (List Int)
 | 0 => [[]]
 | l+1=>(allR m l).flatMap (fun t=>(List.range m).map (fun x:Nat=>(x:Int) :: t))
theorem allR_mem (m:Nat):∀ (r:List Int),(∀ q ∈ r,0≤q∧q < (m:Int))→r ∈ allR m r.length
 | [],_=>by simp [allR]
 | x :: r,h=>by
  have hx:=h x (by simp)
  simp only [List.length_cons,allR,List.mem_flatMap,List.mem_map,List.mem_range]
  exact ⟨r,allR_mem m r (fun q hq=>h q (by simp [hq])),x.toNat,by omega,by rw [Int.toNat_of_nonneg hx.1]⟩
theorem len27 {n:Nat} {P:List (List Int)} (hn:n≤3) (hP:P.Nodup) (hG:∀ r ∈ P,GoodR n r):P.length≤27:=by
 have h:=nodup_lenR P (allR n n) hP (fun r hr=>by have:=allR_mem n r (hG r hr).2;rw [(hG r hr).1] at this;exact this)
 have h2:(allR n n).length≤27:=by
  rcases (by omega:n=0∨n=1∨n=2∨n=3) with rfl|rfl|rfl|rfl <;> decide
 omega
theorem addM_nodup {P:List (List Int)} {r:List Int} (h:P.Nodup):(addM P r).Nodup:=by
 unfold addM
 by_cases q:numOf P r < 0
 ·rw [if_pos q]
  refine List.nodup_append.2 ⟨h,by simp,fun a ha b hb=>?_⟩
  rw [List.mem_singleton.1 hb]
  rintro rfl
  exact numOf_neg.1 q ha
 ·rw [if_neg q];exact h
theorem addM_gen {n:Nat} {X P:List (List Int)} {r:List Int} (h:∀ x ∈ P,Gen n X x) (hr:Gen n X r):∀ x ∈ addM P r,Gen n X x:=by
 obtain ⟨t,e,_,ht⟩:=addM_ext P r
 rw [e]
 intro x hx
 rcases List.mem_append.1 hx with h1|h1
 ·exact h x h1
 ·rw [ht x h1];exact hr
theorem addM_hd {n:Nat} {P:List (List Int)} (r:List Int) (h:∃ t,P=idR n :: t):∃ t,addM P r=idR n :: t:=by
 obtain ⟨t,rfl⟩:=h
 obtain ⟨u,e,_,_⟩:=addM_ext (idR n :: t) r
 exact ⟨t ++ u,by rw [e];rfl⟩
section
variable {n : Nat} {X : List (List Int)} (hX : DfaX n X)
include hX
theorem impl_step (P:List (List Int)) (L:List Int) (i c:Nat) (hP:P.length≤30) (hi:i < P.length) (hc:c < 3) (hL:L.length≤60) (hg:GoodR n (rd_L3 P (i:Int))) {q:BmR}
  (hbig:30 < (addM P (aft (rd_L3 P (i:Int)) (colX X c))).length→q=([],[],[],false))
  (hr:(addM P (aft (rd_L3 P (i:Int)) (colX X c))).length≤30→Evt (fun k=>impl_BuildMonoid.l2 k X (addM P (aft (rd_L3 P (i:Int)) (colX X c))) (if i=0 then L ++ [numOf (addM P (aft (rd_L3 P (i:Int)) (colX X c))) (aft (rd_L3 P (i:Int)) (colX X c))] else L) (i:Int) ((c+1:Nat):Int)) q) :
  Evt (fun k=>impl_BuildMonoid.l2 k X P L (i:Int) (c:Int)) q:=by
 have hlen:=hX.len
 have hhi:=hX.hi
 refine Evt.step ?_
 simp only [impl_BuildMonoid.l2]
 refine Evt.pos (by omega) (Evt.pos (by omega) (Evt.pos (by omega) ?_))
 generalize rd_L3 P (i:Int)=row at *
 have hl:=hg.1
 have h:∀ d j:Nat,j+d=row.length→Evt (fun k=>impl_BuildMonoid.l3 k X P L (i:Int) (c:Int) ((row.take j).map (fun q=>rd (colX X c) q)) row (j:Int)) q:=by
  intro d
  induction d with
  | zero =>
   intro j hj
   refine Evt.step ?_
   simp only [impl_BuildMonoid.l3]
   rw [List.take_of_length_le (by omega),w64s (i:=c) (by omega)]
   refine Evt.neg (by omega) ?_
   rw [show List.map (fun q=>rd (colX X c) q) row=aft row (colX X c) from rfl]
   generalize aft row (colX X c)=nx at *
   unfold addM at hbig hr
   by_cases h0:numOf P nx < 0
   ·rw [if_pos h0] at hbig hr
    rw [List.length_append,List.length_singleton] at hbig hr
    refine Evt.pos h0 (Evt.pos (by omega) ?_)
    by_cases h1:30 < P.length+1
    ·exact Evt.pos (by omega) ((Evt.ret _).cast (hbig h1).symm)
    ·have hr:=hr (by omega)
     refine Evt.neg (by omega) ?_
     by_cases h2:i=0
     ·rw [if_pos h2] at hr
      exact Evt.pos (by omega) (Evt.pos (by omega) hr)
     ·rw [if_neg h2] at hr
      exact Evt.neg (by omega) hr
   ·rw [if_neg h0] at hbig hr
    have hr:=hr (by omega)
    refine Evt.neg h0 ?_
    by_cases h2:i=0
    ·rw [if_pos h2] at hr
     exact Evt.pos (by omega) (Evt.pos (by omega) hr)
    ·rw [if_neg h2] at hr
     exact Evt.neg (by omega) hr
  | succ d ih =>
   intro j hj
   have hm:j < row.length:=by omega
   have hq:=hg.2 _ (List.getElem_mem hm)
   have h1:=ih (j+1) (by omega)
   rw [List.take_succ_eq_append_getElem hm,List.map_append,List.map_singleton,rd_col c _ hq.1 (by omega)] at h1
   have h3:=(hX.row _ (rows_in X row[j] hq.1 (by omega))).1
   refine Evt.step ?_
   simp only [impl_BuildMonoid.l3]
   rw [rd_at row j hm,w64s (i:=j) (by omega)]
   refine Evt.pos (by omega) (Evt.pos (by omega) (Evt.pos (by omega) (Evt.pos (by omega) (Evt.pos (by omega) (Evt.pos (by omega) (Evt.pos ?_ h1))))))
   rw [List.length_map,List.length_take]
   omega
 exact h row.length 0 (by omega)
theorem spec_step (P:List (List Int)) (i c:Nat) (hP:P.length≤60) (hi:i < P.length) (hc:c < 3) (hG:∀ r ∈ P,GoodR n r) {q:BmR}
  (hr:Evt (fun k=>spec_BuildMonoid.l2 k [colX X 0,colX X 1,colX X 2] (i:Int) ((c+1:Nat):Int) (addM P (aft (rd_L3 P (i:Int)) (colX X c)))) q) :
  Evt (fun k=>spec_BuildMonoid.l2 k [colX X 0,colX X 1,colX X 2] (i:Int) (c:Int) P) q:=by
 have hg:GoodR n (rd_L3 P (i:Int)):=hG _ (rows_in P _ (by omega) (by omega))
 have hcol:rd_L3 [colX X 0,colX X 1,colX X 2] (c:Int)=colX X c:=by
  rcases (by omega:c=0∨c=1∨c=2) with rfl|rfl|rfl <;> rfl
 have hhi:=hX.hi
 refine Evt.step ?_
 simp only [spec_BuildMonoid.l2]
 rw [hcol,w64s (i:=c) (by omega)]
 refine Evt.pos (by simp;omega) (Evt.pos (by omega) (Evt.pos (by omega) (Evt.pos (by omega) (Evt.bind (after_ev _ _ hX.hi hg (col_good hX c hc).1) (Evt.bind (find_ev P _ (by omega) (fun r hr=>by have:=(hG r hr).1;omega)) ?_)))))
 unfold addM at hr
 by_cases h0:numOf P (aft (rd_L3 P (i:Int)) (colX X c)) < 0
 ·rw [if_pos h0] at hr
  exact Evt.pos h0 (Evt.pos (by omega) hr)
 ·rw [if_neg h0] at hr
  exact Evt.neg h0 hr
def BmOk (q:BmR):Prop:=RowsLe q.1 1048576∧q.2.1.length≤1048576∧RowsLe q.2.2.1 1048576
omit hX in
theorem bmOk_no:BmOk ([],[],[],false):=⟨⟨by simp,by simp⟩,by simp,⟨by simp,by simp⟩⟩
theorem bm_end (P:List (List Int)) (hP:P.length≤30) (hG:∀ r ∈ P,GoodR n r) (L:List Int) (hL:L = [numOf P (colX X 0),numOf P (colX X 1),numOf P (colX X 2)]) (hH:∃ t,P=idR n :: t) (hC:∀ r ∈ P,∀ c,c < 3→aft r (colX X c) ∈ P) (hm:colX X 0 ∈ P∧colX X 1 ∈ P∧colX X 2 ∈ P) (hg:∀ r ∈ P,Gen n X r) :
  ∃ q,Evt (fun k=>impl_BuildMonoid.l5 k P L [] 0) q∧Evt (fun k=>spec_BuildMonoid.l3 k [colX X 0,colX X 1,colX X 2] 0 P []) q∧BmOk q∧(q.2.2.2=true→FullM n X q)∧(n≤3→q.2.2.2=true):=by
 have hhi:=hX.hi
 have hfind:∀ x,Evt (fun k=>spec_l13Find.f k P x) (numOf P x):=fun x=>find_ev P x (by omega) (fun r hr=>by have:=(hG r hr).1;omega)
 refine ⟨(P,L,P.map (tabRow P),true),impl_tabs hhi hP hG P.length 0 (by omega),?_,?_,fun _=>⟨hG,hP,hH,hC,hm,hL,rfl,hg⟩,fun _=>rfl⟩
 ·subst hL
  have h:=spec_tabs (L:=[numOf P (colX X 0),numOf P (colX X 1),numOf P (colX X 2)]) hhi hP hG P.length 0 (by omega)
  refine Evt.step ?_
  simp only [spec_BuildMonoid.l3]
  refine Evt.pos (by simp) (Evt.pos (by omega) (Evt.bind (hfind _) (Evt.pos (by simp) (Evt.step ?_))))
  simp only [spec_BuildMonoid.l3]
  refine Evt.pos (by simp [w64_a]) (Evt.pos (by simp [w64_a]) (Evt.bind (hfind _) (Evt.pos (by simp) (Evt.step ?_))))
  simp only [spec_BuildMonoid.l3]
  refine Evt.pos (by simp [w64_a,w64_b]) (Evt.pos (by simp [w64_a,w64_b]) (Evt.bind (hfind _) (Evt.pos (by simp) (Evt.step ?_))))
  simp only [spec_BuildMonoid.l3]
  refine Evt.neg (by simp [w64_a,w64_b,w64_c]) ?_
  rw [w64_1,w64_2]
  exact h
 ·refine ⟨⟨by dsimp only;omega,fun x hx=>by have:=(hG x hx).1;omega⟩,by rw [hL];simp,⟨by dsimp only;rw [List.length_map];omega,fun x hx=>?_⟩⟩
  obtain ⟨y,hy,rfl⟩:=List.mem_map.1 hx
  rw [tabRow,List.length_map]
  omega
theorem bm_rounds:∀ (d i:Nat) (P:List (List Int)) (L:List Int),i+d=31→P.length≤30→1≤P.length→i≤P.length→(∀ r ∈ P,GoodR n r) →
  (i=0→L = []∧∀ x,GoodR n x→aft (rd_L3 P 0) x=x)→(0 < i→(colX X 0 ∈ P∧colX X 1 ∈ P∧colX X 2 ∈ P)∧L = [numOf P (colX X 0),numOf P (colX X 1),numOf P (colX X 2)]) →
  (∃ t,P=idR n :: t)→P.Nodup→(∀ j,j < i→∀ c,c < 3→aft (rd_L3 P (j:Int)) (colX X c) ∈ P)→(∀ r ∈ P,Gen n X r) →
  ∃ q,Evt (fun k=>impl_BuildMonoid.l1 k X P L (i:Int)) q∧Evt (fun k=>spec_BuildMonoid.l1 k [colX X 0,colX X 1,colX X 2] (i:Int) P) q∧BmOk q∧(q.2.2.2=true→FullM n X q)∧(n≤3→q.2.2.2=true):=by
 intro d
 induction d with
 | zero =>
  intro i P L hi hP h1 hle
  omega
 | succ d ih =>
  intro i P L hid hP h1 hle hG h0 hp hH hN hC hgen
  by_cases hi:i < P.length
  ·have hg:GoodR n (rd_L3 P (i:Int)):=hG _ (rows_in P _ (by omega) (by omega))
   generalize hrow:rd_L3 P (i:Int)=row at hg
   have g0:=aft_good hg (col_good hX 0 (by omega))
   have g1:=aft_good hg (col_good hX 1 (by omega))
   have g2:=aft_good hg (col_good hX 2 (by omega))
   have y0:Gen n X row:=hrow ▸ hgen _ (rows_in P _ (by omega) (by omega))
   have y1:=Gen.step row 0 y0 (by omega)
   have y2:=Gen.step row 1 y0 (by omega)
   have y3:=Gen.step row 2 y0 (by omega)
   generalize e0:aft row (colX X 0)=n0 at *
   generalize e1:aft row (colX X 1)=n1 at *
   generalize e2:aft row (colX X 2)=n2 at *
   have a1:=addM_len P n0
   have G1:=addM_good hG g0
   have r1:rd_L3 (addM P n0) (i:Int)=row:=by rw [addM_at P n0 i hi,hrow]
   have a2:=addM_len (addM P n0) n1
   have G2:=addM_good G1 g1
   have r2:rd_L3 (addM (addM P n0) n1) (i:Int)=row:=by rw [addM_at _ n1 i (by omega),r1]
   have a3:=addM_len (addM (addM P n0) n1) n2
   have G3:=addM_good G2 g2
   have s0:=fun q=>spec_step (q:=q) hX P i 0 (by omega) hi (by omega) hG
   have s1:=fun q=>spec_step (q:=q) hX (addM P n0) i 1 (by omega) (by omega) (by omega) G1
   have s2:=fun q=>spec_step (q:=q) hX (addM (addM P n0) n1) i 2 (by omega) (by omega) (by omega) G2
   have i0:=fun q=>impl_step (q:=q) hX P L i 0 hP hi (by omega)
   have i1:=fun q L'=>impl_step (q:=q) hX (addM P n0) L' i 1
   have i2:=fun q L'=>impl_step (q:=q) hX (addM (addM P n0) n1) L' i 2
   simp only [hrow,e0] at s0 i0
   simp only [r1,e1] at s1
   simp only [r1,e1] at i1
   simp only [r2,e2] at s2
   simp only [r2,e2] at i2
   have hL:L.length≤3:=by
    by_cases q:i=0
    ·rw [(h0 q).1];simp
    ·rw [(hp (by omega)).2];simp
   have sgo:∀ q,Evt (fun k=>spec_BuildMonoid.l2 k [colX X 0,colX X 1,colX X 2] (i:Int) ((3:Nat):Int) (addM (addM (addM P n0) n1) n2)) q→Evt (fun k=>spec_BuildMonoid.l1 k [colX X 0,colX X 1,colX X 2] (i:Int) P) q:=by
    intro q hq
    refine Evt.step ?_
    simp only [spec_BuildMonoid.l1]
    exact Evt.pos (by omega) (s0 q (s1 q (s2 q hq)))
   have igo:∀ q,Evt (fun k=>impl_BuildMonoid.l2 k X P L (i:Int) ((0:Nat):Int)) q→Evt (fun k=>impl_BuildMonoid.l1 k X P L (i:Int)) q:=by
    intro q hq
    refine Evt.step ?_
    simp only [impl_BuildMonoid.l1]
    exact Evt.pos (by omega) hq
   by_cases big:30 < (addM (addM (addM P n0) n1) n2).length
   ·refine ⟨([],[],[],false),igo _ (i0 _ (by omega) hg (fun _=>rfl) (fun b1=>i1 _ _ b1 (by omega) (by omega) (by have:=if_len i L (numOf (addM P n0) n0) 3 hL;omega) hg (fun _=>rfl) (fun b2=>i2 _ _ b2 (by omega) (by omega) (by have:=if_len i _ (numOf (addM (addM P n0) n1) n1) 4 (if_len i L (numOf (addM P n0) n0) 3 hL);omega) hg (fun _=>rfl) (fun b3=>by omega)))),sgo _ (Evt.step ?_),bmOk_no,fun h=>absurd h (by decide),fun h=>?_⟩
    rotate_left
    ·exact absurd (len27 h (addM_nodup (addM_nodup (addM_nodup hN))) G3) (by omega)
    simp only [spec_BuildMonoid.l2]
    exact Evt.neg (by simp) (Evt.pos (by omega) (Evt.ret _))
   ·have m0:n0 ∈ addM (addM (addM P n0) n1) n2:=addM_sub _ _ (addM_sub _ _ (addM_mem _ _))
    have m1:n1 ∈ addM (addM (addM P n0) n1) n2:=addM_sub _ _ (addM_mem _ _)
    have m2:n2 ∈ addM (addM (addM P n0) n1) n2:=addM_mem _ _
    have cl':∀ j,j < i+1→∀ c,c < 3→aft (rd_L3 (addM (addM (addM P n0) n1) n2) (j:Int)) (colX X c) ∈ addM (addM (addM P n0) n1) n2:=by
     intro j hj c hc
     rw [addM_at _ n2 j (by omega),addM_at _ n1 j (by omega),addM_at _ n0 j (by omega)]
     by_cases q:j=i
     ·rw [q,hrow]
      rcases (by omega:c=0∨c=1∨c=2) with rfl|rfl|rfl
      ·rw [e0];exact m0
      ·rw [e1];exact m1
      ·rw [e2];exact m2
     ·exact addM_sub _ _ (addM_sub _ _ (addM_sub _ _ (hC j (by omega) c hc)))
    have u0:numOf (addM (addM (addM P n0) n1) n2) n0=numOf (addM P n0) n0:=by rw [addM_num _ _ (addM_sub _ _ (addM_mem _ _)),addM_num _ _ (addM_mem _ _)]
    have u1:numOf (addM (addM (addM P n0) n1) n2) n1=numOf (addM (addM P n0) n1) n1:=by rw [addM_num _ _ (addM_mem _ _)]
    have up:∀ x,x ∈ P→x ∈ addM (addM (addM P n0) n1) n2∧numOf (addM (addM (addM P n0) n1) n2) x=numOf P x:=fun x hx=>⟨addM_sub _ _ (addM_sub _ _ (addM_sub _ _ hx)),by rw [addM_num _ _ (addM_sub _ _ (addM_sub _ _ hx)),addM_num _ _ (addM_sub _ _ hx),addM_num _ _ hx]⟩
    have key:∃ L':List Int,(∀ q,Evt (fun k=>impl_BuildMonoid.l2 k X (addM (addM (addM P n0) n1) n2) L' (i:Int) ((3:Nat):Int)) q→Evt (fun k=>impl_BuildMonoid.l1 k X P L (i:Int)) q)∧(colX X 0 ∈ addM (addM (addM P n0) n1) n2∧colX X 1 ∈ addM (addM (addM P n0) n1) n2∧colX X 2 ∈ addM (addM (addM P n0) n1) n2)∧L' = [numOf (addM (addM (addM P n0) n1) n2) (colX X 0),numOf (addM (addM (addM P n0) n1) n2) (colX X 1),numOf (addM (addM (addM P n0) n1) n2) (colX X 2)]:=by
     by_cases q0:i=0
     ·obtain ⟨hl0,hid0⟩:=h0 q0
      subst q0
      rw [show ((0:Nat):Int)=0 from rfl] at hrow
      rw [hrow] at hid0
      rw [hid0 _ (col_good hX 0 (by omega))] at e0
      rw [hid0 _ (col_good hX 1 (by omega))] at e1
      rw [hid0 _ (col_good hX 2 (by omega))] at e2
      rw [e0,e1,e2]
      refine ⟨[numOf (addM P n0) n0,numOf (addM (addM P n0) n1) n1,numOf (addM (addM (addM P n0) n1) n2) n2],fun q hq=>?_,⟨m0,m1,m2⟩,by rw [u0,u1]⟩
      subst hl0
      refine igo _ (i0 _ (by simp) hg (fun b=>by omega) (fun _=>i1 _ _ (by omega) (by omega) (by omega) (by simp) hg (fun b=>by omega) (fun _=>i2 _ _ (by omega) (by omega) (by omega) (by simp) hg (fun b=>by omega) (fun _=>?_))))
      simpa using hq
     ·obtain ⟨hm,hl⟩:=hp (by omega)
      refine ⟨L,fun q hq=>?_,⟨(up _ hm.1).1,(up _ hm.2.1).1,(up _ hm.2.2).1⟩,by rw [(up _ hm.1).2,(up _ hm.2.1).2,(up _ hm.2.2).2,hl]⟩
      refine igo _ (i0 _ (by omega) hg (fun b=>by omega) (fun _=>i1 _ _ (by omega) (by omega) (by omega) (by simp [q0];omega) hg (fun b=>by omega) (fun _=>i2 _ _ (by omega) (by omega) (by omega) (by simp [q0];omega) hg (fun b=>by omega) (fun _=>?_))))
      simpa [q0] using hq
    obtain ⟨L',k1,k2,k3⟩:=key
    obtain ⟨q,hq1,hq2,hq3⟩:=ih (i+1) _ L' (by omega) (by omega) (by omega) (by omega) G3 (fun h=>by omega) (fun _=>⟨k2,k3⟩) (addM_hd _ (addM_hd _ (addM_hd _ hH))) (addM_nodup (addM_nodup (addM_nodup hN))) cl' (addM_gen (addM_gen (addM_gen hgen y1) y2) y3)
    refine ⟨q,k1 q (Evt.step ?_),sgo q (Evt.step ?_),hq3⟩
    ·simp only [impl_BuildMonoid.l2]
     rw [w64s (i:=i) (by omega)]
     exact Evt.neg (by omega) hq1
    ·simp only [spec_BuildMonoid.l2]
     rw [w64s (i:=i) (by omega)]
     exact Evt.neg (by simp) (Evt.neg (by omega) hq2)
  ·obtain ⟨q,hq1,hq2,hq3⟩:=bm_end hX P hP hG L (hp (by omega)).2 hH (fun r hr c hc=>by
    obtain ⟨j,hj,e⟩:=List.getElem_of_mem hr
    have:=hC j (by omega) c hc
    rw [rows_at P j hj,e] at this
    exact this) (hp (by omega)).1 hgen
   refine ⟨q,Evt.step ?_,Evt.step ?_,hq3⟩
   ·simp only [impl_BuildMonoid.l1]
    exact Evt.neg (by omega) hq1
   ·simp only [spec_BuildMonoid.l1]
    exact Evt.neg (by omega) hq2
end
theorem buildMonoid_full (A:List Bool) (X:List (List Int)) (hA:A.length≤1048576) (hX:RowsLe X 1048576):∃ q,Evt (fun k=>impl_BuildMonoid.f k A X) q∧Evt (fun k=>spec_BuildMonoid.f k A X) q∧BmOk q∧(q.2.2.2=true→dfaB A X=true∧FullM A.length X q)∧(dfaB A X=true→A.length≤3→q.2.2.2=true):=by
 simp only [impl_BuildMonoid.f,spec_BuildMonoid.f]
 have hv:=spec_IsValidDfa_ev A X (by omega) (fun r hr=>by have:=hX.2 r hr;omega)
 by_cases hd:dfaB A X=true
 ·have hx:=dfaX_of hd
  have hhi:=hx.hi
  have hlo:=hx.lo
  have hid:∀ j:Nat,(List.range j).length=j:=fun j=>List.length_range
  obtain ⟨idn,hidn⟩:∃ idn:List Int,idn=List.map (fun j:Nat=>(j:Int)) (List.range A.length):=⟨_,rfl⟩
  have hidl:idn.length=A.length:=by simp [hidn]
  have hgood:GoodR A.length idn:=by
   refine ⟨hidl,fun q hq=>?_⟩
   rw [hidn] at hq
   obtain ⟨j,hj,rfl⟩:=List.mem_map.1 hq
   have:=List.mem_range.1 hj
   omega
  have haft:∀ x,GoodR A.length x→aft idn x=x:=by
   intro x hg
   refine List.ext_getElem (by simp [aft,hidn,hg.1]) (fun j h1 h2=>?_)
   simp [aft,hidn,rd,h2]
  have hsucc:∀ j,j < A.length→(idn.take j) ++ [(j:Int)]=idn.take (j+1):=by
   intro j hj
   rw [List.take_succ_eq_append_getElem (by omega)]
   simp [hidn]
  obtain ⟨q,h1,h2,h3⟩:=bm_rounds hx 31 0 [idn] [] rfl (by simp) (by simp) (by omega) (by simpa using hgood) (fun _=>⟨rfl,haft⟩) (fun h=>by omega) ⟨[],by rw [hidn];rfl⟩ (by simp) (fun j hj=>by omega) (by
   intro r hr
   rw [List.mem_singleton.1 hr,hidn]
   exact Gen.id)
  refine ⟨q,Evt.pos hd ?_,Evt.bind hv (Evt.pos hd ?_),h3.1,fun e=>⟨hd,h3.2.1 e⟩,fun _ e=>h3.2.2 e⟩
  ·have h:∀ d j:Nat,j+d=A.length→Evt (fun k=>impl_BuildMonoid.l0 k (A.length:Int) X (idn.take j) (j:Int)) q:=by
    intro d
    induction d with
    | zero =>
     intro j hj
     refine Evt.step ?_
     simp only [impl_BuildMonoid.l0]
     rw [List.take_of_length_le (by omega)]
     exact Evt.neg (by omega) h1
    | succ d ih =>
     intro j hj
     refine Evt.step ?_
     simp only [impl_BuildMonoid.l0]
     rw [hsucc j (by omega),w64s (by omega)]
     exact Evt.pos (by omega) (Evt.pos (by rw [List.length_take];omega) (ih (j+1) (by omega)))
   exact h A.length 0 (by omega)
  ·have h:∀ d j:Nat,j+d=A.length→Evt (fun k=>spec_BuildMonoid.l0 k (idn.take j) (j:Int) A X) q:=by
    intro d
    induction d with
    | zero =>
     intro j hj
     refine Evt.step ?_
     simp only [spec_BuildMonoid.l0]
     rw [List.take_of_length_le (by omega)]
     exact Evt.neg (by omega) (Evt.bind (letters_ev A X hx) h2)
    | succ d ih =>
     intro j hj
     refine Evt.step ?_
     simp only [spec_BuildMonoid.l0]
     rw [hsucc j (by omega),w64s (by omega)]
     exact Evt.pos (by omega) (Evt.pos (by rw [List.length_take];omega) (ih (j+1) (by omega)))
   exact h A.length 0 (by omega)
 ·exact ⟨_,Evt.neg hd (Evt.ret _),Evt.bind hv (Evt.neg hd (Evt.ret _)),bmOk_no,fun e=>absurd e (by decide),fun e=>absurd e hd⟩
end Go.Proofs.Ythkbgoohiinmbaa.F
namespace Go.Proofs.Ythkbgoohiinmbaa.F
open Go.RowKit YthkbgoohiinmbaaW.PrintWords Ythkbgoohiinmbaa.Pl Ythkbgoohiinmbaa.A Ythkbgoohiinmbaa.Ext
theorem spec_LetterIndex_ev (c:Int):Evt (fun k=>spec_LetterIndex.f k c) (ltI c):=by
 refine ⟨4,fun k hk=>?_⟩
 obtain ⟨m,rfl⟩:∃ m,k=m+4:=⟨k - 4,by omega⟩
 unfold ltI
 by_cases h0:(97:Int)=c
 ·simp [spec_LetterIndex.f,spec_LetterIndex.l0,w64_a,w64_b,w64_c,bt_abc0,bt_abc1,bt_abc2,h0]
 ·by_cases h1:(98:Int)=c
  ·simp [spec_LetterIndex.f,spec_LetterIndex.l0,w64_a,w64_b,w64_c,bt_abc0,bt_abc1,bt_abc2,h0,h1]
  ·by_cases h2:(99:Int)=c
   ·simp [spec_LetterIndex.f,spec_LetterIndex.l0,w64_a,w64_b,w64_c,bt_abc0,bt_abc1,bt_abc2,h0,h1,h2]
   ·simp [spec_LetterIndex.f,spec_LetterIndex.l0,w64_a,w64_b,w64_c,bt_abc0,bt_abc1,bt_abc2,h0,h1,h2]
theorem impl_LetterIndex_eq {c:Int} (h0:0≤c) (h1:c≤255):impl_LetterIndex.f c=some (ltI c):=by
 obtain ⟨n,rfl⟩:=Int.eq_ofNat_of_zero_le h0
 simp only [impl_LetterIndex.f,strings_IndexByte.f,Option.bind_some]
 rw [Int.toNat_natCast]
 exact congrArg some (ix_abc n (by omega))
def allL (l:List Int):Bool:=l.all fun c=>decide (0≤ltI c)
theorem impl_isLetters_ev (s:ByteArray) (hs:s.size≤9223372036854775807):Evt (fun k=>impl_isLetters.f k s) (allL (bytesOf s)):=by
 have h:=Evt.up (fun k i=>impl_isLetters.l0 k s i) s.size (fun i=>allL ((bytesOf s).drop i)) ?_ ?_
 ·simpa [impl_isLetters.f] using h
 ·refine Evt.step ?_
  simp only [impl_isLetters.l0]
  rw [List.drop_of_length_le (by rw [bytesOf_length];omega)]
  exact Evt.neg (by omega) (Evt.ret _)
 ·intro i hi h
  refine Evt.step ?_
  simp only [impl_isLetters.l0]
  refine Evt.pos (by omega) (Evt.pos (by omega) (Evt.bindc (impl_LetterIndex_eq (bt0 _ _) (bt255 _ _)) ?_))
  have hl:i < (bytesOf s).length:=by rw [bytesOf_length];exact hi
  rw [List.drop_eq_getElem_cons hl,← bt_get s i hl]
  by_cases hc:ltI (bt s i) < 0
  ·exact Evt.pos hc (Evt.const (by simp [allL,show ¬ (0≤ltI (bt s i)) by omega]))
  ·rw [w64s (by omega)]
   exact Evt.neg hc (h.cast (by simp [allL,show 0≤ltI (bt s i) by omega]))
def isW (s:ByteArray):Bool:=allL (bytesOf s) && decide (s.size≤30)
theorem impl_IsWord_ev (s:ByteArray) (hs:s.size≤9223372036854775807):Evt (fun k=>impl_IsWord.f k s) (isW s):=by
 unfold isW
 simp only [impl_IsWord.f]
 by_cases h:s.size≤30
 ·exact Evt.pos (by omega) (Evt.bind (impl_isLetters_ev s hs) (Evt.const (by simp [h])))
 ·exact Evt.neg (by omega) (Evt.const (by simp [h]))
theorem spec_IsWord_ev (s:ByteArray) (hs:s.size≤9223372036854775807):Evt (fun k=>spec_IsWord.f k s) (isW s):=by
 have h:=Evt.up (fun k i=>spec_IsWord.l0 k s i) s.size (fun i=>allL ((bytesOf s).drop i) && decide (s.size≤30)) ?_ ?_
 ·simpa [spec_IsWord.f,isW] using h
 ·refine Evt.step ?_
  simp only [spec_IsWord.l0]
  rw [List.drop_of_length_le (by rw [bytesOf_length];omega)]
  refine Evt.neg (by omega) (Evt.const ?_)
  have e:((s.size:Int)≤30)=(s.size≤30):=by apply propext;omega
  simp [allL,e]
 ·intro i hi h
  refine Evt.step ?_
  simp only [spec_IsWord.l0]
  refine Evt.pos (by omega) (Evt.pos (by omega) (Evt.bind (spec_LetterIndex_ev _) ?_))
  have hl:i < (bytesOf s).length:=by rw [bytesOf_length];exact hi
  rw [List.drop_eq_getElem_cons hl,← bt_get s i hl]
  by_cases hc:ltI (bt s i) < 0
  ·exact Evt.pos hc (Evt.const (by simp [allL,show ¬ (0≤ltI (bt s i)) by omega]))
  ·rw [w64s (by omega)]
   exact Evt.neg hc (h.cast (by simp [allL,show 0≤ltI (bt s i) by omega]))
theorem l1In_eq (a:Int) (n:Nat) (hn:n≤9223372036854775807):spec_l1In.f a 0 (wrap64 ((n:Int) - 1))=some (inR n a):=by
 rw [w64 (by omega) (by omega)]
 unfold spec_l1In.f inR
 by_cases h:a ≥ 0
 ·rw [if_pos h];simp [show 0≤a from h]
 ·rw [if_neg h];simp [show ¬ 0≤a from h]
theorem rdN (l:List Int) (i:Nat) (h:i < l.length):rd l (i:Int)=l[i]:=by simp [rd,h]
theorem l13Numbers_ev (l:List Int) (n:Nat) (hl:l.length≤9223372036854775807) (hn:n≤9223372036854775807):Evt (fun k=>spec_l13Numbers.f k l (n:Int)) (l.all (inR n)):=by
 have h:=Evt.up (fun k i=>spec_l13Numbers.l0 k l (n:Int) i) l.length (fun i=>(l.drop i).all (inR n)) ?_ ?_
 ·simpa [spec_l13Numbers.f] using h
 ·refine Evt.step ?_
  simp only [spec_l13Numbers.l0]
  rw [List.drop_of_length_le (Nat.le_refl _)]
  exact Evt.neg (by omega) (Evt.ret _)
 ·intro i hi h
  refine Evt.step ?_
  simp only [spec_l13Numbers.l0]
  refine Evt.pos (by omega) (Evt.pos (by omega) (Evt.bindc (l1In_eq _ n hn) ?_))
  rw [List.drop_eq_getElem_cons hi,rdN l i hi]
  cases hc:inR n l[i] with
  | true=>rw [w64s (by omega)];exact Evt.pos rfl (h.cast (by simp only [List.all_cons,hc,Bool.true_and]))
  | false=>exact Evt.neg (by decide) (Evt.const (by simp only [List.all_cons,hc,Bool.false_and]))
theorem l13Good_ev (x:List (List Int)) (y:List Int) (z:List (List Int)) (hx:x.length≤9223372036854775807) (hy:y.length≤9223372036854775807) (hw:∀ r ∈ z,r.length≤9223372036854775807):Evt (fun k=>spec_l13Good.f k x y z) (wellB x.length y z):=by
 simp only [spec_l13Good.f]
 have hbad:∀ n:Int,Evt (fun k=>spec_l13Good.j0 k n true x y z) false:=by
  intro n
  refine Evt.step ?_
  simp only [spec_l13Good.j0]
  exact Evt.pos trivial (Evt.ret _)
 by_cases c1:x.length=0
 ·exact Evt.pos (by omega) ((hbad _).cast (by simp [wellB,c1]))
 refine Evt.neg (by omega) ?_
 by_cases c2:y.length=3
 ·refine Evt.pos (by omega) ?_
  by_cases c3:z.length=x.length
  ·refine Evt.pos (by omega) (Evt.bind (l13Numbers_ev y x.length hy hx) ?_)
   cases c4:y.all (inR x.length) with
   | false=>exact (hbad _).cast (by simp only [wellB,c4];simp)
   | true =>
    refine Evt.step ?_
    simp only [spec_l13Good.j0]
    refine Evt.neg (by decide) ?_
    have h:=Evt.up (fun k i=>spec_l13Good.l0 k (x.length:Int) i x y z) x.length (fun i=>(z.drop i).all (rowOk x.length)) ?_ ?_
    ·exact h.cast (by simp only [wellB,c4];simp [c1,c2,c3])
    ·refine Evt.step ?_
     simp only [spec_l13Good.l0]
     rw [List.drop_of_length_le (by omega)]
     exact Evt.neg (by omega) (Evt.ret _)
    ·intro i hi h
     refine Evt.step ?_
     simp only [spec_l13Good.l0]
     have hi':i < z.length:=by omega
     rw [rows_at z i hi',List.drop_eq_getElem_cons hi']
     refine Evt.pos (by omega) (Evt.pos (by omega) (Evt.pos (by omega) ?_))
     by_cases c5:z[i].length=x.length
     ·refine Evt.pos (by omega) (Evt.bind (l13Numbers_ev z[i] x.length (hw _ (List.getElem_mem hi')) hx) ?_)
      cases c6:z[i].all (inR x.length) with
      | true=>rw [w64s (by omega)];exact Evt.pos rfl (h.cast (by simp only [List.all_cons,rowOk,c6];simp [c5]))
      | false=>exact Evt.neg (by decide) (Evt.const (by simp only [List.all_cons,rowOk,c6];simp))
     ·exact Evt.neg (by omega) (Evt.const (by simp only [List.all_cons,rowOk];simp [c5]))
  ·exact Evt.neg (by omega) ((hbad _).cast (by simp [wellB,c3]))
 ·exact Evt.neg (by omega) ((hbad _).cast (by simp [wellB,c2]))
theorem ltI_le (c:Int):ltI c≤2:=by unfold ltI;repeat' split <;> omega
theorem wellB_get {n:Nat} {L:List Int} {P:List (List Int)} (h:wellB n L P=true):0 < n∧L.length=3∧(∀ a ∈ L,0≤a∧a < n)∧P.length=n∧∀ r ∈ P,r.length=n∧∀ a ∈ r,0≤a∧a < n:=by
 unfold wellB at h
 simp only [Bool.and_eq_true,Bool.not_eq_true',decide_eq_false_iff_not,decide_eq_true_eq,List.all_eq_true] at h
 obtain ⟨⟨h1,h2⟩,h3,h4,h5⟩:=h
 refine ⟨by omega,h2,fun a ha=>?_,h4,fun r hr=>?_⟩
 ·have:=h3 a ha
  unfold inR at this
  simp only [Bool.and_eq_true,decide_eq_true_eq] at this
  omega
 ·have h6:=h5 r hr
  unfold rowOk at h6
  simp only [Bool.and_eq_true,decide_eq_true_eq,List.all_eq_true] at h6
  refine ⟨h6.1,fun a ha=>?_⟩
  have:=h6.2 a ha
  unfold inR at this
  simp only [Bool.and_eq_true,decide_eq_true_eq] at this
  omega
theorem mapOf_ev (s:ByteArray) (x:List (List Int)) (y:List Int) (z:List (List Int)) (hs:s.size≤9223372036854775807) (hw:isW s=true) (hg:wellB x.length y z=true) :
  ∃ v,Evt (fun k=>spec_MapOf.l0 k s 0 0 x y z) (v,true)∧Evt (fun k=>impl_mapOf.l0 k s 0 0 x y z) v:=by
 obtain ⟨g1,g2,g3,g4,g5⟩:=wellB_get hg
 have hl:∀ i:Nat,i < s.size→0≤ltI (bt s (i:Int)):=by
  intro i hi
  unfold isW allL at hw
  simp only [Bool.and_eq_true,List.all_eq_true,decide_eq_true_eq] at hw
  have hi':i < (bytesOf s).length:=by rw [bytesOf_length];exact hi
  rw [bt_get s i hi']
  exact hw.1 _ (List.getElem_mem hi')
 have h:∀ d i:Nat,i+d=s.size→∀ m:Nat,m < x.length→∃ v,Evt (fun k=>spec_MapOf.l0 k s (m:Int) (i:Int) x y z) (v,true)∧Evt (fun k=>impl_mapOf.l0 k s (m:Int) (i:Int) x y z) v:=by
  intro d
  induction d with
  | zero =>
   intro i hi m hm
   refine ⟨m,Evt.step ?_,Evt.step ?_⟩
   ·simp only [spec_MapOf.l0]
    exact Evt.neg (by omega) (Evt.ret _)
   ·simp only [impl_mapOf.l0]
    exact Evt.neg (by omega) (Evt.ret _)
  | succ d ih =>
   intro i hi m hm
   have h0:=hl i (by omega)
   have h2:=ltI_le (bt s (i:Int))
   have e1:=spec_LetterIndex_ev (bt s (i:Int))
   have e2:=impl_LetterIndex_eq (bt0 s (i:Int)) (bt255 s (i:Int))
   generalize ltI (bt s (i:Int))=t at h0 h2 e1 e2
   obtain ⟨t,rfl⟩:=Int.eq_ofNat_of_zero_le h0
   have ht:t < y.length:=by omega
   have hm':m < z.length:=by omega
   obtain ⟨b0,b1⟩:=g3 _ (List.getElem_mem ht)
   obtain ⟨r0,r1⟩:=g5 _ (List.getElem_mem hm')
   have q1:=rdN y t ht
   generalize y[t]=b at b0 b1 q1
   obtain ⟨b,rfl⟩:=Int.eq_ofNat_of_zero_le b0
   have hb:b < z[m].length:=by omega
   obtain ⟨c0,c1⟩:=r1 _ (List.getElem_mem hb)
   have q2:=rdN z[m] b hb
   generalize z[m][b]=c at c0 c1 q2
   obtain ⟨c,rfl⟩:=Int.eq_ofNat_of_zero_le c0
   obtain ⟨v,v1,v2⟩:=ih (i+1) (by omega) c (by omega)
   refine ⟨v,Evt.step ?_,Evt.step ?_⟩
   ·simp only [spec_MapOf.l0]
    refine Evt.pos (by omega) (Evt.pos (by omega) (Evt.pos (by omega) (Evt.pos (by omega) (Evt.bind e1 (Evt.pos (by omega) (Evt.pos (by omega) ?_))))))
    rw [rows_at z m hm',q1,q2,w64s (by omega)]
    exact Evt.pos (by omega) (Evt.pos (by omega) v1)
   ·simp only [impl_mapOf.l0]
    refine Evt.pos (by omega) (Evt.pos (by omega) (Evt.pos (by omega) (Evt.pos (by omega) (Evt.bindc e2 (Evt.pos (by omega) (Evt.pos (by omega) ?_))))))
    rw [rows_at z m hm',q1,q2,w64s (by omega)]
    exact Evt.pos (by omega) (Evt.pos (by omega) v2)
 exact h s.size 0 (by omega) 0 g1
theorem MapOf_ev (s:ByteArray) (x:List (List Int)) (y:List Int) (z:List (List Int)) (hs:s.size≤9223372036854775807) (hx:x.length≤9223372036854775807) (hy:y.length≤9223372036854775807) (hz:∀ r ∈ z,r.length≤9223372036854775807) :
  ∃ p,Evt (fun k=>spec_MapOf.f k x y z s) p∧Evt (fun k=>impl_MapOf.f k x y z s) p:=by
 simp only [spec_MapOf.f,impl_MapOf.f]
 have h1:=l13Good_ev x y z hx hy hz
 have h2:=spec_IsWord_ev s hs
 have h3:=impl_IsWord_ev s hs
 have h4:impl_wellFormed.f x y z=some (wellB x.length y z):=rfl
 have hbad:Evt (fun k=>spec_MapOf.j0 k s true x y z) (0,false):=by
  refine Evt.step ?_
  simp only [spec_MapOf.j0]
  exact Evt.pos trivial (Evt.ret _)
 cases hg:wellB x.length y z with
 | false =>
  rw [hg] at h1 h4
  refine ⟨(0,false),Evt.bind h1 (Evt.neg (by decide) hbad),Evt.bind h3 ?_⟩
  cases hw:isW s with
  | true=>exact Evt.pos rfl (Evt.bindc h4 (Evt.neg (by decide) (Evt.ret _)))
  | false=>exact Evt.neg (by decide) (Evt.ret _)
 | true =>
  cases hw:isW s with
  | false =>
   rw [hg] at h1
   rw [hw] at h2 h3
   exact ⟨(0,false),Evt.bind h1 (Evt.pos rfl (Evt.bind h2 hbad)),Evt.bind h3 (Evt.neg (by decide) (Evt.ret _))⟩
  | true =>
   obtain ⟨v,v1,v2⟩:=mapOf_ev s x y z hs hw hg
   rw [hg] at h1 h4
   rw [hw] at h2 h3
   refine ⟨(v,true),Evt.bind h1 (Evt.pos rfl (Evt.bind h2 (Evt.step ?_))),Evt.bind h3 (Evt.pos rfl (Evt.bindc h4 (Evt.pos rfl (Evt.bind (a:=v) ?_ (Evt.ret _)))))⟩
   ·simp only [spec_MapOf.j0]
    exact Evt.neg (by decide) v1
   ·simp only [impl_mapOf.f]
    exact v2
end Go.Proofs.Ythkbgoohiinmbaa.F
namespace Go.Proofs.Ythkbgoohiinmbaa.F
open Go Go.RowKit YthkbgoohiinmbaaW.PrintWords Ythkbgoohiinmbaa.Pl Ythkbgoohiinmbaa.A Ythkbgoohiinmbaa.Ext
theorem nodup_len (n:Nat):∀ l:List Int,l.Nodup→(∀ v ∈ l,0≤v∧v < n)→l.length≤n:=by
 induction n with
 | zero =>
  intro l _ h
  cases l with
  | nil=>exact Nat.le_refl _
  | cons v l=>have:=h v (by simp);omega
 | succ n ih =>
  intro l hd h
  by_cases hm:(n:Int) ∈ l
  ·have h1:=ih (l.erase (n:Int)) (hd.erase _) (fun v hv=>by
    have hv':=(hd.mem_erase_iff).1 hv
    have:=h v hv'.2
    have hne:=hv'.1
    omega)
   rw [List.length_erase_of_mem hm] at h1
   omega
  ·have h1:=ih l hd (fun v hv=>by
    have:=h v hv
    have hne:v ≠ (n:Int):=fun e=>hm (e ▸ hv)
    omega)
   omega
theorem l5Find_ev (l:List Int) (v:Int) (hl:l.length≤1048577):∃ r,Evt (fun k=>spec_l5Find.f k l v) r∧(r < 0 ↔ v ∉ l):=by
 have hh:∀ d i:Nat,i+d=l.length→∃ r,Evt (fun k=>spec_l5Find.l0 k l v (i:Int)) r∧(r < 0 ↔ v ∉ l.drop i):=by
  intro d
  induction d with
  | zero =>
   intro i hi
   refine ⟨-1,Evt.step ?_,?_⟩
   ·simp only [spec_l5Find.l0]
    exact Evt.neg (by omega) (Evt.ret _)
   ·rw [List.drop_of_length_le (by omega)]
    simp
  | succ d ih =>
   intro i hi
   have hi':i < l.length:=by omega
   have hrd:rd l (i:Int)=l[i]:=by simp [rd,hi']
   obtain ⟨r,hr,hc⟩:=ih (i+1) (by omega)
   rw [List.drop_eq_getElem_cons hi']
   by_cases he:l[i]=v
   ·refine ⟨(i:Int),Evt.step ?_,?_⟩
    ·simp only [spec_l5Find.l0]
     rw [hrd]
     exact Evt.pos (by omega) (Evt.pos (by omega) (Evt.pos he (Evt.ret _)))
    ·constructor
     ·intro h;omega
     ·intro h;exact absurd (he ▸ List.mem_cons_self ..) h
   ·refine ⟨r,Evt.step ?_,?_⟩
    ·simp only [spec_l5Find.l0]
     rw [hrd,w64s (by omega)]
     exact Evt.pos (by omega) (Evt.pos (by omega) (Evt.neg he hr))
    ·rw [hc]
     have he':¬ v=l[i]:=fun e=>he e.symm
     rw [List.mem_cons,not_or]
     exact ⟨fun h=>⟨he',h⟩,fun h=>h.2⟩
 obtain ⟨r,hr,hc⟩:=hh l.length 0 (by omega)
 exact ⟨r,by simpa [spec_l5Find.f] using hr,by simpa using hc⟩
def InvW (n:Nat) (xs:List Int) (ws:List ByteArray):Prop:=xs.Nodup∧(∀ v ∈ xs,0≤v∧v < n)∧xs.length=ws.length∧(∀ s ∈ ws,s.size≤xs.length)∧0 < xs.length
theorem rdOf_mem (ws:List ByteArray) (i:Nat) (h:i < ws.length):rdOf ByteArray.empty ws (i:Int) ∈ ws:=by
 unfold rdOf
 rw [Int.toNat_natCast,List.getD_eq_getElem?_getD,List.getElem?_eq_getElem h]
 exact List.getElem_mem h
theorem letB_size (j:Nat) (h:j < 3):(letB (j:Int)).size=1:=by
 have:j=0∨j=1∨j=2:=by omega
 rcases this with rfl|rfl|rfl <;> rfl
theorem word_sim (x:List (List Int)) (y:List Int) (z:List (List Int)) (a:Int) (n:Nat) (hn:n≤1048576) (hy:y.length=3) (hz:z.length=n)
  (hN:∀ u j:Int,0≤u→u < n→0≤j→j < 3→0≤rd y j∧rd y j < (z.getD u.toNat []).length∧0≤nextW y z u j∧nextW y z u j < n) (k:Nat) :
  (∀ (xs:List Int) (ws:List ByteArray) (i:Nat),InvW n xs ws→i≤xs.length→5 * (n - i)+1≤k→∃ r,fwI (fun i=>i == a) (nextW y z) k xs ws (i:Int)=some r∧Evt (fun q=>spec_WordOfMap.l0 q a xs ws (i:Int) x y z) r) ∧
  (∀ (xs:List Int) (ws:List ByteArray) (i j:Nat),InvW n xs ws→i < xs.length→j≤3→5 * (n - i - 1)+(3 - j)+2≤k→∃ r,fwJ (fun i=>i == a) (nextW y z) k xs ws (i:Int) (j:Int)=some r∧Evt (fun q=>spec_WordOfMap.l1 q a xs ws (i:Int) (j:Int) x y z) r):=by
 induction k with
 | zero=>exact ⟨fun xs ws i _ _ h=>by omega,fun xs ws i j _ _ _ h=>by omega⟩
 | succ k ih =>
  obtain ⟨ihI,ihJ⟩:=ih
  constructor
  ·intro xs ws i hI hi hk
   have hlen:=nodup_len n xs hI.1 hI.2.1
   obtain ⟨_,hr,he,hs,h0⟩:=hI
   simp only [fwI]
   by_cases hl:(i:Int) < (xs.length:Int)
   ·rw [if_pos hl]
    by_cases hg:rd xs (i:Int)=a
    ·rw [if_pos (beq_iff_eq.2 hg)]
     refine ⟨_,rfl,Evt.step ?_⟩
     simp only [spec_WordOfMap.l0]
     exact Evt.pos hl (Evt.pos (by omega) (Evt.pos hg (Evt.pos (by omega) (Evt.ret _))))
    ·obtain ⟨r,e1,e2⟩:=ihJ xs ws i 0 ⟨by assumption,hr,he,hs,h0⟩ (by omega) (by omega) (by omega)
     rw [if_neg (fun h=>hg (beq_iff_eq.1 h))]
     refine ⟨r,e1,Evt.step ?_⟩
     simp only [spec_WordOfMap.l0]
     exact Evt.pos hl (Evt.pos (by omega) (Evt.neg hg e2))
   ·rw [if_neg hl]
    refine ⟨_,rfl,Evt.step ?_⟩
    simp only [spec_WordOfMap.l0]
    exact Evt.neg hl (Evt.ret _)
  ·intro xs ws i j hI hi hj hk
   have hlen:=nodup_len n xs hI.1 hI.2.1
   obtain ⟨hd,hr,he,hs,h0⟩:=hI
   simp only [fwJ]
   by_cases hj3:(j:Int) < 3
   ·rw [if_pos hj3]
    have hu:=hr _ (rd_mem (xs:=xs) (i:=(i:Int)) (by omega) (by omega))
    obtain ⟨m0,m1,m2,m3⟩:=hN (rd xs (i:Int)) (j:Int) hu.1 hu.2 (by omega) hj3
    have hv:rd (rd_L3 z (rd xs (i:Int))) (rd y (j:Int))=nextW y z (rd xs (i:Int)) (j:Int):=rfl
    obtain ⟨f,f1,f2⟩:=l5Find_ev xs (nextW y z (rd xs (i:Int)) (j:Int)) (by omega)
    have m1':rd y (j:Int) < ((rd_L3 z (rd xs (i:Int))).length:Int):=m1
    cases hm:decide (nextW y z (rd xs (i:Int)) (j:Int) ∈ xs) with
    | true =>
     obtain ⟨r,e1,e2⟩:=ihJ xs ws i (j+1) ⟨hd,hr,he,hs,h0⟩ hi (by omega) (by omega)
     rw [if_pos rfl]
     refine ⟨r,e1,Evt.step ?_⟩
     simp only [spec_WordOfMap.l1]
     rw [hv,w64s (by omega)]
     exact Evt.pos hj3 (Evt.pos (by omega) (Evt.pos (by omega) (Evt.pos hu.1 (Evt.pos (by omega) (Evt.pos (by omega) (Evt.pos (by omega) (Evt.pos m0 (Evt.pos m1' (Evt.bind f1 (Evt.neg (fun h=>f2.1 h (of_decide_eq_true hm)) e2))))))))))
    | false =>
     have hnm:=of_decide_eq_false hm
     have hw:=hs _ (rdOf_mem ws i (by omega))
     have hl1:=letB_size j (by omega)
     have hlen2:=nodup_len n (xs ++ [nextW y z (rd xs (i:Int)) (j:Int)]) (by
      rw [List.nodup_append]
      refine ⟨hd,by simp,fun p hp q hq=>?_⟩
      rw [List.mem_singleton.1 hq]
      exact fun e=>hnm (e ▸ hp)) (fun v hv=>by
      rcases List.mem_append.1 hv with hv|hv
      ·exact hr v hv
      ·rw [List.mem_singleton.1 hv];exact ⟨m2,m3⟩)
     obtain ⟨r,e1,e2⟩:=ihJ (xs ++ [nextW y z (rd xs (i:Int)) (j:Int)]) (ws ++ [rdOf ByteArray.empty ws (i:Int) ++ letB (j:Int)]) i (j+1) (by
      refine ⟨?_,?_,by simp [he],?_,by simp⟩
      ·rw [List.nodup_append]
       refine ⟨hd,by simp,fun p hp q hq=>?_⟩
       rw [List.mem_singleton.1 hq]
       exact fun e=>hnm (e ▸ hp)
      ·intro v hv
       rcases List.mem_append.1 hv with hv|hv
       ·exact hr v hv
       ·rw [List.mem_singleton.1 hv];exact ⟨m2,m3⟩
      ·intro s hs'
       rw [List.length_append,List.length_singleton]
       rcases List.mem_append.1 hs' with hs'|hs'
       ·have:=hs s hs';omega
       ·rw [List.mem_singleton.1 hs',ByteArray.size_append,hl1];omega) (by simp;omega) (by omega) (by omega)
     rw [if_neg (by decide),if_pos ⟨by omega,by omega⟩]
     refine ⟨r,e1,Evt.step ?_⟩
     simp only [spec_WordOfMap.l1]
     rw [hv,w64s (by omega)]
     have hl2:(⟨#[97,98,99]⟩:ByteArray).extract ((j:Nat):Int).toNat ((j+1:Nat):Int).toNat=letB (j:Int):=rfl
     rw [hl2]
     exact Evt.pos hj3 (Evt.pos (by omega) (Evt.pos (by omega) (Evt.pos hu.1 (Evt.pos (by omega) (Evt.pos (by omega) (Evt.pos (by omega) (Evt.pos m0 (Evt.pos m1' (Evt.bind f1 (Evt.pos (f2.2 hnm) (Evt.pos (by omega) (Evt.pos (by omega) (Evt.pos (by omega) (Evt.pos (by omega) (Evt.pos (by rw [hl1];omega) (Evt.pos (by omega) e2))))))))))))))))
   ·rw [if_neg hj3]
    obtain ⟨r,e1,e2⟩:=ihI xs ws (i+1) ⟨hd,hr,he,hs,h0⟩ (by omega) (by omega)
    refine ⟨r,e1,Evt.step ?_⟩
    simp only [spec_WordOfMap.l1]
    rw [w64s (i:=i) (by omega)]
    exact Evt.neg hj3 e2
theorem WordOfMap_ev (x:List (List Int)) (y:List Int) (z:List (List Int)) (a:Int) (hx:x.length≤1048576) (hy:y.length≤9223372036854775807) (hz:∀ r ∈ z,r.length≤9223372036854775807) :
  ∃ r,Evt (fun k=>spec_WordOfMap.f k x y z a) r∧impl_WordOfMap.f x y z a=some r:=by
 simp only [spec_WordOfMap.f]
 unfold impl_WordOfMap.f
 have hg:=l13Good_ev x y z (by omega) hy hz
 cases hw:wellB x.length y z with
 | false =>
  rw [hw] at hg
  exact ⟨_,Evt.bind hg (Evt.neg (by decide) (Evt.ret _)),by rw [if_neg (by decide)]⟩
 | true =>
  rw [hw] at hg
  obtain ⟨n0,n1,n2,n3⟩:=well_next hw
  obtain ⟨r,e1,e2⟩:=(word_sim x y z a x.length hx n2 n1 n3 (5 * x.length+10)).1 [0] [(⟨#[]⟩:ByteArray)] 0 ⟨by simp,by intro v hv;rw [List.mem_singleton.1 hv];omega,rfl,by intro s hs;rw [List.mem_singleton.1 hs];exact Nat.zero_le _,by simp⟩ (by simp) (by omega)
  exact ⟨r,Evt.bind hg (Evt.pos rfl e2),by rw [if_pos rfl,if_pos (by omega)];exact e1⟩
def mw (y:List Int) (z:List (List Int)) (m:Int) (l:List Int):Int:=l.foldl (fun m c=>nextW y z m (ltI c)) m
theorem isW_letters {s:ByteArray} (h:isW s=true):∀ c ∈ bytesOf s,0≤ltI c:=by
 unfold isW allL at h
 simp only [Bool.and_eq_true,List.all_eq_true,decide_eq_true_eq] at h
 exact h.1
theorem mapOf_val (s:ByteArray) (x:List (List Int)) (y:List Int) (z:List (List Int)) (hs:s.size≤9223372036854775807) (hw:isW s=true) (hg:wellB x.length y z=true) :
  Evt (fun k=>impl_MapOf.f k x y z s) (mw y z 0 (bytesOf s),true):=by
 obtain ⟨g1,g2,g3,g4,g5⟩:=wellB_get hg
 have hl:=isW_letters hw
 have h:∀ d i:Nat,i+d=s.size→∀ m:Nat,m < x.length→Evt (fun k=>impl_mapOf.l0 k s (m:Int) (i:Int) x y z) (mw y z m ((bytesOf s).drop i)):=by
  intro d
  induction d with
  | zero =>
   intro i hi m hm
   refine Evt.step ?_
   simp only [impl_mapOf.l0]
   rw [List.drop_of_length_le (by rw [bytesOf_length];omega)]
   exact Evt.neg (by omega) (Evt.ret _)
  | succ d ih =>
   intro i hi m hm
   have hib:i < (bytesOf s).length:=by rw [bytesOf_length];omega
   have h0:=hl _ (List.getElem_mem hib)
   have e2:=impl_LetterIndex_eq (bt0 s (i:Int)) (bt255 s (i:Int))
   rw [List.drop_eq_getElem_cons hib]
   rw [bt_get s i hib] at e2
   show Evt _ (mw y z (nextW y z m (ltI (bytesOf s)[i])) ((bytesOf s).drop (i+1)))
   have h2:=ltI_le (bytesOf s)[i]
   generalize ltI (bytesOf s)[i]=t at h0 h2 e2 ⊢
   obtain ⟨t,rfl⟩:=Int.eq_ofNat_of_zero_le h0
   have ht:t < y.length:=by omega
   have hm':m < z.length:=by omega
   obtain ⟨b0,b1⟩:=g3 _ (List.getElem_mem ht)
   obtain ⟨r0,r1⟩:=g5 _ (List.getElem_mem hm')
   have q1:=rdN y t ht
   have q3:nextW y z (m:Int) (t:Int)=rd z[m] y[t]:=by
    unfold nextW
    rw [q1]
    simp [hm']
   generalize y[t]=b at b0 b1 q1 q3
   obtain ⟨b,rfl⟩:=Int.eq_ofNat_of_zero_le b0
   have hb:b < z[m].length:=by omega
   obtain ⟨c0,c1⟩:=r1 _ (List.getElem_mem hb)
   have q2:=rdN z[m] b hb
   rw [q2] at q3
   generalize z[m][b]=c at c0 c1 q2 q3
   obtain ⟨c,rfl⟩:=Int.eq_ofNat_of_zero_le c0
   rw [q3]
   refine Evt.step ?_
   simp only [impl_mapOf.l0]
   rw [bt_get s i hib]
   refine Evt.pos (by omega) (Evt.pos (by omega) (Evt.pos (by omega) (Evt.pos (by omega) (Evt.bindc e2 (Evt.pos (by omega) (Evt.pos (by omega) ?_))))))
   rw [rows_at z m hm',q1,q2,w64s (by omega)]
   exact Evt.pos (by omega) (Evt.pos (by omega) (ih (i+1) (by omega) c (by omega)))
 have h3:=impl_IsWord_ev s hs
 have h4:impl_wellFormed.f x y z=some (wellB x.length y z):=rfl
 rw [hg] at h4
 rw [hw] at h3
 simp only [impl_MapOf.f]
 refine Evt.bind h3 (Evt.pos rfl (Evt.bindc h4 (Evt.pos rfl (Evt.bind (a:=mw y z 0 (bytesOf s)) ?_ (Evt.ret _)))))
 simp only [impl_mapOf.f]
 exact h s.size 0 (by omega) 0 g1
/-! The maps of words. -/
def acts (X:List (List Int)) (r:List Int) (l:List Int):List Int:=l.foldl (fun r c=>aft r (colX X (ltI c).toNat)) r
theorem getD_i (P:List (List Int)) (i:Nat) (h:i < P.length):P.getD i []=P[i]:=by
 rw [List.getD_eq_getElem?_getD,List.getElem?_eq_getElem h];rfl
theorem tab_at (P:List (List Int)) (r s:List Int) (hs:s ∈ P):rd (tabRow P r) (numOf P s)=numOf P (aft r s):=by
 obtain ⟨i,hi,e,h1,_⟩:=numOf_spec hs
 rw [e]
 have hl:i < (tabRow P r).length:=by rw [tabRow,List.length_map];exact hi
 rw [rdN _ i hl]
 simp only [tabRow,List.getElem_map]
 rw [getD_i P i hi] at h1
 rw [h1]
theorem rd_aft {r s:List Int} {i:Nat} (h:i < r.length):rd (aft r s) (i:Int)=rd s (rd r (i:Int)):=by
 rw [rdN _ i (by rw [aft,List.length_map];exact h),rdN r i h]
 simp [aft]
theorem aft_id {n:Nat} {r:List Int} (h:GoodR n r):aft r (idR n)=r:=by
 refine List.ext_getElem (by simp [aft]) (fun j h1 h2=>?_)
 have hq:=h.2 _ (List.getElem_mem h2)
 simp only [aft,List.getElem_map]
 generalize r[j]=v at hq
 obtain ⟨m,rfl⟩:=Int.eq_ofNat_of_zero_le hq.1
 have hm:m < (idR n).length:=by simp [idR];omega
 rw [rdN _ m hm]
 simp [idR]
theorem id_aft {n:Nat} {r:List Int} (h:GoodR n r):aft (idR n) r=r:=by
 refine List.ext_getElem (by simp [aft,idR,h.1]) (fun j h1 h2=>?_)
 simp [aft,idR,rd,h2]
theorem aft_aft {n:Nat} {r s t:List Int} (hr:GoodR n r) (hs:s.length=n):aft (aft r s) t=aft r (aft s t):=by
 unfold aft
 rw [List.map_map]
 refine List.map_congr_left (fun v hv=>?_)
 have hq:=hr.2 v hv
 obtain ⟨m,rfl⟩:=Int.eq_ofNat_of_zero_le hq.1
 exact (rd_aft (r:=s) (s:=t) (by omega)).symm
theorem id_good (n:Nat):GoodR n (idR n):=by
 refine ⟨by simp [idR],fun q hq=>?_⟩
 obtain ⟨j,hj,rfl⟩:=List.mem_map.1 hq
 have:=List.mem_range.1 hj
 omega
section
variable {n : Nat} {X : List (List Int)} (hX : DfaX n X) {q : BmR} (F : FullM n X q)
include hX F
theorem mem_aft {x:List Int} (hx:x ∈ q.1) (y:List Int) (hy:y ∈ q.1):aft x y ∈ q.1:=by
 have h:=F.gen y hy
 clear hy
 have hg:∀ y,Gen n X y→GoodR n y∧aft x y ∈ q.1:=by
  intro y h
  induction h with
  | id=>exact ⟨id_good n,by rw [aft_id (F.good x hx)];exact hx⟩
  | step r c _ hc ih=>exact ⟨aft_good ih.1 (col_good hX c hc),by rw [← aft_aft (F.good x hx) ih.1.1];exact F.clo _ ih.2 c hc⟩
 exact (hg y h).2
theorem acts_app:∀ (l:List Int),(∀ c ∈ l,0≤ltI c)→∀ r,GoodR n r→acts X r l=aft r (acts X (idR n) l)∧GoodR n (acts X r l)
 | [],_,r,hr=>⟨(aft_id hr).symm,hr⟩
 | c :: l,hl,r,hr=>by
  have h2:=ltI_le c
  have hc:(ltI c).toNat < 3:=by omega
  have g:=col_good hX _ hc
  have ih:=acts_app l (fun d hd=>hl d (by simp [hd]))
  obtain ⟨a1,a2⟩:=ih _ (aft_good hr g)
  obtain ⟨b1,b2⟩:=ih _ (aft_good (id_good n) g)
  refine ⟨?_,a2⟩
  show acts X (aft r (colX X (ltI c).toNat)) l=aft r (acts X (aft (idR n) (colX X (ltI c).toNat)) l)
  rw [a1,b1,id_aft g,aft_aft hr g.1]
theorem acts_two (l m:List Int) (hl:∀ c ∈ l,0≤ltI c) (hm:∀ c ∈ m,0≤ltI c):acts X (idR n) (l ++ m)=aft (acts X (idR n) l) (acts X (idR n) m):=by
 have h1:=(acts_app hX F l hl _ (id_good n)).2
 have h2:=(acts_app hX F m hm _ h1).1
 unfold acts at *
 rw [List.foldl_append]
 exact h2
theorem tab_num {r:List Int} (hr:r ∈ q.1):q.2.2.1.getD (numOf q.1 r).toNat []=tabRow q.1 r:=by
 obtain ⟨i,hi,e,h1,_⟩:=numOf_spec hr
 rw [e,F.tab,Int.toNat_natCast,getD_i _ i (by rw [List.length_map];exact hi),List.getElem_map]
 rw [getD_i _ i hi] at h1
 rw [h1]
theorem col_mem {c:Nat} (hc:c < 3):colX X c ∈ q.1:=by
 rcases (by omega:c=0∨c=1∨c=2) with rfl|rfl|rfl
 ·exact F.cols.1
 ·exact F.cols.2.1
 ·exact F.cols.2.2
theorem num_at {c:Nat} (hc:c < 3):rd q.2.1 (c:Int)=numOf q.1 (colX X c):=by
 rw [F.num]
 rcases (by omega:c=0∨c=1∨c=2) with rfl|rfl|rfl <;> rfl
theorem full_next {r:List Int} (hr:r ∈ q.1) {c:Nat} (hc:c < 3):nextW q.2.1 q.2.2.1 (numOf q.1 r) (c:Int)=numOf q.1 (aft r (colX X c)):=by
 unfold nextW
 rw [tab_num hX F hr,num_at hX F hc,tab_at q.1 r _ (col_mem hX F hc)]
theorem full_walk:∀ (l:List Int),(∀ c ∈ l,0≤ltI c)→∀ r,r ∈ q.1→mw q.2.1 q.2.2.1 (numOf q.1 r) l=numOf q.1 (acts X r l)∧acts X r l ∈ q.1
 | [],_,r,hr=>⟨rfl,hr⟩
 | c :: l,hl,r,hr=>by
  have h0:=hl c (by simp)
  have h2:=ltI_le c
  have h:=full_next hX F hr (c:=(ltI c).toNat) (by omega)
  rw [Int.toNat_of_nonneg h0] at h
  have h3:=full_walk l (fun d hd=>hl d (by simp [hd])) (aft r (colX X (ltI c).toNat)) (F.clo r hr _ (by omega))
  exact ⟨by show mw q.2.1 q.2.2.1 (nextW q.2.1 q.2.2.1 (numOf q.1 r) (ltI c)) l=_;rw [h];exact h3.1,h3.2⟩
theorem id_mem:idR n ∈ q.1:=by
 obtain ⟨t,e⟩:=F.hd
 rw [e];simp
theorem num_id:numOf q.1 (idR n)=0:=by
 obtain ⟨i,hi,e,h1,h2⟩:=numOf_spec (id_mem hX F)
 obtain ⟨t,ht⟩:=F.hd
 by_cases h:i=0
 ·rw [e,h];rfl
 ·exact absurd (by rw [ht];rfl) (h2 0 (by omega))
theorem full_well:wellB q.1.length q.2.1 q.2.2.1=true:=by
 have hl:=F.len
 have hin:∀ r,r ∈ q.1→inR q.1.length (numOf q.1 r)=true:=by
  intro r hr
  obtain ⟨i,hi,e,_⟩:=numOf_spec hr
  rw [e]
  unfold inR
  simp only [Bool.and_eq_true,decide_eq_true_eq]
  omega
 have h0:q.1.length ≠ 0:=by
  obtain ⟨t,e⟩:=F.hd
  rw [e];simp
 unfold wellB
 simp only [Bool.and_eq_true,Bool.not_eq_true',decide_eq_false_iff_not,decide_eq_true_eq,List.all_eq_true]
 refine ⟨⟨h0,by rw [F.num];rfl⟩,fun a ha=>?_,by rw [F.tab,List.length_map],fun r hr=>?_⟩
 ·rw [F.num] at ha
  simp only [List.mem_cons,List.not_mem_nil,or_false] at ha
  rcases ha with rfl|rfl|rfl
  ·exact hin _ F.cols.1
  ·exact hin _ F.cols.2.1
  ·exact hin _ F.cols.2.2
 ·rw [F.tab] at hr
  obtain ⟨x,hx,rfl⟩:=List.mem_map.1 hr
  unfold rowOk
  simp only [Bool.and_eq_true,decide_eq_true_eq,List.all_eq_true]
  refine ⟨by rw [tabRow,List.length_map],fun a ha=>?_⟩
  obtain ⟨y,hy,rfl⟩:=List.mem_map.1 ha
  exact hin _ (mem_aft hX F hx y hy)
end
def runs (X:List (List Int)) (q:Int) (l:List Int):Int:=l.foldl (fun q c=>rd (rd_L3 X q) (ltI c)) q
theorem rd_good {n:Nat} {r:List Int} (h:GoodR n r) (i:Nat) (hi:i < n):0≤rd r (i:Int)∧rd r (i:Int) < (n:Int):=by
 rw [rdN r i (by rw [h.1];exact hi)]
 exact h.2 _ (List.getElem_mem _)
theorem rd_id {n i:Nat} (h:i < n):rd (idR n) (i:Int)=(i:Int):=by
 rw [rdN _ i (by simp [idR];exact h)]
 simp [idR]
theorem acts_run {n:Nat} {X:List (List Int)} (hX:DfaX n X) (i:Nat) (hi:i < n):∀ (l:List Int),(∀ c ∈ l,0≤ltI c)→∀ r,GoodR n r→rd (acts X r l) (i:Int)=runs X (rd r (i:Int)) l
 | [],_,_,_=>rfl
 | c :: l,hl,r,hr=>by
  have h0:=hl c (by simp)
  have h2:=ltI_le c
  have hc:(ltI c).toNat < 3:=by omega
  have g:=col_good hX _ hc
  have e:=acts_run hX i hi l (fun d hd=>hl d (by simp [hd])) _ (aft_good hr g)
  have hg:=rd_good hr i hi
  show rd (acts X (aft r (colX X (ltI c).toNat)) l) (i:Int)=runs X (rd (rd_L3 X (rd r (i:Int))) (ltI c)) l
  rw [e,rd_aft (by rw [hr.1];exact hi),rd_col _ _ hg.1 (by rw [hX.len];exact hg.2),Int.toNat_of_nonneg h0]
theorem runDfa_ev (A:List Bool) (X:List (List Int)) (hd:dfaB A X=true) (q:Nat) (hq:q < A.length) (s:ByteArray) (hs:s.size≤9223372036854775807) (hw:isW s=true) :
  Evt (fun k=>spec_RunDfa.f k A X (q:Int) s) (runs X q (bytesOf s),true):=by
 have hX:=dfaX_of hd
 have hlen:=hX.len
 have hhi:=hX.hi
 have hv:=spec_IsValidDfa_ev A X (by omega) (fun r hr=>by have:=(hX.row r hr).1;omega)
 have hl:=isW_letters hw
 have hi:=l1In_eq (q:Int) A.length (by omega)
 have hin:inR A.length (q:Int)=true:=by
  unfold inR
  simp only [Bool.and_eq_true,decide_eq_true_eq]
  omega
 have h3:=spec_IsWord_ev s hs
 rw [hin] at hi
 rw [hw] at h3
 rw [hd] at hv
 have h:∀ d i:Nat,i+d=s.size→∀ m:Nat,m < A.length→Evt (fun k=>spec_RunDfa.l0 k s (m:Int) (i:Int) A X) (runs X m ((bytesOf s).drop i),true):=by
  intro d
  induction d with
  | zero =>
   intro i hi m hm
   refine Evt.step ?_
   simp only [spec_RunDfa.l0]
   rw [List.drop_of_length_le (by rw [bytesOf_length];omega)]
   exact Evt.neg (by omega) (Evt.ret _)
  | succ d ih =>
   intro i hi m hm
   have hib:i < (bytesOf s).length:=by rw [bytesOf_length];omega
   have h0:=hl _ (List.getElem_mem hib)
   have h2:=ltI_le (bytesOf s)[i]
   have e1:=spec_LetterIndex_ev (bt s (i:Int))
   rw [List.drop_eq_getElem_cons hib]
   rw [bt_get s i hib] at e1
   have hm':m < X.length:=by omega
   have hrow:=hX.row _ (List.getElem_mem hm')
   show Evt _ (runs X (rd (rd_L3 X (m:Int)) (ltI (bytesOf s)[i])) ((bytesOf s).drop (i+1)),true)
   generalize ltI (bytesOf s)[i]=t at h0 h2 e1 ⊢
   obtain ⟨t,rfl⟩:=Int.eq_ofNat_of_zero_le h0
   have hb:t < X[m].length:=by omega
   obtain ⟨c0,c1⟩:=hrow.2 _ (List.getElem_mem hb)
   have q2:=rdN X[m] t hb
   rw [rows_at X m hm',q2]
   generalize X[m][t]=c at c0 c1 q2 ⊢
   obtain ⟨c,rfl⟩:=Int.eq_ofNat_of_zero_le c0
   refine Evt.step ?_
   simp only [spec_RunDfa.l0]
   rw [bt_get s i hib]
   refine Evt.pos (by omega) (Evt.pos (by omega) (Evt.pos (by omega) (Evt.pos (by omega) (Evt.bind e1 (Evt.pos (by omega) ?_)))))
   rw [rows_at X m hm',q2,w64s (by omega)]
   exact Evt.pos (by omega) (ih (i+1) (by omega) c (by omega))
 simp only [spec_RunDfa.f]
 refine Evt.bind hv (Evt.pos rfl (Evt.bindc hi (Evt.pos rfl (Evt.bind h3 (Evt.step ?_)))))
 simp only [spec_RunDfa.j0]
 exact Evt.neg (by decide) (h s.size 0 (by omega) q hq)
/-! The word of a map. -/
def InvB (y:List Int) (z:List (List Int)) (n:Nat) (xs:List Int) (ws:List ByteArray):Prop :=
 xs.Nodup∧(∀ v ∈ xs,0≤v∧v < n)∧xs.length=ws.length∧∀ i:Nat,i < xs.length→(∀ c ∈ bytesOf (rdOf ByteArray.empty ws (i:Int)),0≤ltI c)∧(rdOf ByteArray.empty ws (i:Int)).size≤i∧mw y z 0 (bytesOf (rdOf ByteArray.empty ws (i:Int)))=rd xs (i:Int)
def EndB (y:List Int) (z:List (List Int)) (n:Nat) (a:Int) (p:ByteArray × Bool):Prop:=(∀ c ∈ bytesOf p.1,0≤ltI c)∧p.1.size≤n∧(p.2=true→mw y z 0 (bytesOf p.1)=a)
theorem bytes_letB (j:Nat) (h:j < 3):bytesOf (letB (j:Int)) = [97+(j:Int)]∧ltI (97+(j:Int))=(j:Int):=by
 rcases (by omega:j=0∨j=1∨j=2) with rfl|rfl|rfl <;> exact ⟨by decide +kernel,by decide⟩
theorem rdOf_app1 (ws:List ByteArray) (s:ByteArray) (i:Nat) (h:i < ws.length):rdOf ByteArray.empty (ws ++ [s]) (i:Int)=rdOf ByteArray.empty ws (i:Int):=by
 unfold rdOf
 simp [List.getElem?_append_left,h]
theorem rdOf_app2 (ws:List ByteArray) (s:ByteArray):rdOf ByteArray.empty (ws ++ [s]) (ws.length:Int)=s:=by
 unfold rdOf
 simp
theorem rd_app1 (xs:List Int) (v:Int) (i:Nat) (h:i < xs.length):rd (xs ++ [v]) (i:Int)=rd xs (i:Int):=by
 rw [rdN _ i (by simp;omega),rdN _ i h,List.getElem_append_left h]
theorem rd_app2 (xs:List Int) (v:Int):rd (xs ++ [v]) (xs.length:Int)=v:=by
 rw [rdN _ xs.length (by simp)]
 simp
theorem fw_inv (y:List Int) (z:List (List Int)) (a:Int) (n:Nat) (hN:∀ u j:Int,0≤u→u < n→0≤j→j < 3→0≤nextW y z u j∧nextW y z u j < n) (k:Nat) :
  (∀ (xs:List Int) (ws:List ByteArray) (i:Nat) (p:ByteArray × Bool),InvB y z n xs ws→fwI (fun i=>i == a) (nextW y z) k xs ws (i:Int)=some p→EndB y z n a p) ∧
  (∀ (xs:List Int) (ws:List ByteArray) (i j:Nat) (p:ByteArray × Bool),InvB y z n xs ws→i < xs.length→fwJ (fun i=>i == a) (nextW y z) k xs ws (i:Int) (j:Int)=some p→EndB y z n a p):=by
 induction k with
 | zero=>exact ⟨fun xs ws i p _ h=>by simp [fwI] at h,fun xs ws i j p _ _ h=>by simp [fwJ] at h⟩
 | succ k ih =>
  obtain ⟨ihI,ihJ⟩:=ih
  constructor
  ·intro xs ws i p hI h
   have hlen:=nodup_len n xs hI.1 hI.2.1
   simp only [fwI] at h
   by_cases hl:(i:Int) < (xs.length:Int)
   ·rw [if_pos hl] at h
    obtain ⟨b1,b2,b3⟩:=hI.2.2.2 i (by omega)
    by_cases hg:(rd xs (i:Int) == a)=true
    ·rw [if_pos hg] at h
     obtain rfl:=zi h
     exact ⟨b1,by dsimp only;omega,fun _=>by dsimp only;rw [b3];exact beq_iff_eq.1 hg⟩
    ·rw [if_neg hg] at h
     exact ihJ xs ws i 0 p hI (by omega) h
   ·rw [if_neg hl] at h
    obtain rfl:=zi h
    exact ⟨fun c hc=>by simp [bytesOf] at hc,Nat.zero_le _,fun h=>absurd h (by decide)⟩
  ·intro xs ws i j p hI hi h
   simp only [fwJ] at h
   by_cases hj3:(j:Int) < 3
   ·rw [if_pos hj3] at h
    cases hm:decide (nextW y z (rd xs (i:Int)) (j:Int) ∈ xs) with
    | true =>
     rw [hm,if_pos rfl] at h
     exact ihJ xs ws i (j+1) p hI hi h
    | false =>
     rw [hm,if_neg (by decide)] at h
     by_cases hs:xs.length < 4000000∧(rdOf ByteArray.empty ws (i:Int)).size≤4000000
     ·rw [if_pos hs] at h
      have hnm:=of_decide_eq_false hm
      obtain ⟨hd,hr,he,hw⟩:=hI
      obtain ⟨b1,b2,b3⟩:=hw i hi
      have hu:=hr _ (rd_mem (xs:=xs) (i:=(i:Int)) (by omega) (by omega))
      have hn:=hN _ (j:Int) hu.1 hu.2 (by omega) hj3
      obtain ⟨t1,t2⟩:=bytes_letB j (by omega)
      refine ihJ _ _ i (j+1) p ⟨?_,?_,by simp [he],?_⟩ (by simp;omega) h
      ·rw [List.nodup_append]
       refine ⟨hd,by simp,fun p hp q hq=>?_⟩
       rw [List.mem_singleton.1 hq]
       exact fun e=>hnm (e ▸ hp)
      ·intro v hv
       rcases List.mem_append.1 hv with hv|hv
       ·exact hr v hv
       ·rw [List.mem_singleton.1 hv];exact hn
      ·intro i2 hi2
       rw [List.length_append,List.length_singleton] at hi2
       by_cases e:i2 < xs.length
       ·rw [rdOf_app1 _ _ i2 (by omega),rd_app1 _ _ i2 e]
        exact hw i2 e
       ·obtain rfl:i2=xs.length:=by omega
        rw [rd_app2]
        have e2:=rdOf_app2 ws (rdOf ByteArray.empty ws (i:Int) ++ letB (j:Int))
        rw [← he] at e2
        rw [e2,bytesOf_append,t1]
        refine ⟨fun c hc=>?_,by rw [ByteArray.size_append,letB_size j (by omega)];omega,?_⟩
        ·rcases List.mem_append.1 hc with hc|hc
         ·exact b1 c hc
         ·rw [List.mem_singleton.1 hc,t2];omega
        ·unfold mw at *
         rw [List.foldl_append,b3]
         simp only [List.foldl_cons,List.foldl_nil,t2]
     ·rw [if_neg hs] at h
      exact absurd h (by simp)
   ·rw [if_neg hj3] at h
    exact ihI xs ws (i+1) p hI h
theorem wordOfMap_end {x:List (List Int)} {y:List Int} {z:List (List Int)} {a:Int} {p:ByteArray × Bool} (h:impl_WordOfMap.f x y z a=some p):EndB y z x.length a p∧(p.2=true→wellB x.length y z=true):=by
 unfold impl_WordOfMap.f at h
 cases hw:wellB x.length y z with
 | false =>
  rw [hw,if_neg (by decide)] at h
  obtain rfl:=zi h
  exact ⟨⟨fun c hc=>by simp [bytesOf] at hc,Nat.zero_le _,fun h=>absurd h (by decide)⟩,fun h=>absurd h (by decide)⟩
 | true =>
  rw [hw,if_pos rfl] at h
  by_cases hx:x.length≤4000000
  ·rw [if_pos hx] at h
   obtain ⟨n0,n1,n2,n3⟩:=well_next hw
   refine ⟨(fw_inv y z a x.length (fun u j h0 h1 h2 h3=>(n3 u j h0 h1 h2 h3).2.2) _).1 [0] [(⟨#[]⟩:ByteArray)] 0 p ⟨by simp,by intro v hv;rw [List.mem_singleton.1 hv];omega,rfl,fun i hi=>?_⟩ h,fun _=>rfl⟩
   obtain rfl:i=0:=by simpa using hi
   exact ⟨fun c hc=>by simp [rdOf,bytesOf] at hc,by simp [rdOf];decide,rfl⟩
  ·rw [if_neg hx] at h
   exact absurd h (by simp)
theorem i64wrap255 (n:Nat) (h:n≤255):IntKind.i64.wrap (n:Int)=n:=by
 unfold IntKind.wrap
 simp [IntKind.signed,IntKind.bits]
 omega
theorem and255 (a:Int):0≤Go.bits .and .i64 a 255∧Go.bits .and .i64 a 255≤255:=by
 have h:(BitVec.ofInt 64 a &&& BitVec.ofInt 64 255).toNat≤255:=by
  rw [BitVec.toNat_and]
  exact Nat.le_trans Nat.and_le_right (by decide)
 have e:Go.bits .and .i64 a 255=IntKind.i64.wrap ((BitVec.ofInt 64 a &&& BitVec.ofInt 64 255).toNat:Int):=rfl
 rw [e,i64wrap255 _ h]
 omega
def Cu (b:List Int) (i:Int):Prop:=b.length≤1048576∧0≤i∧i≤b.length
theorem l1Byte_ok {b:List Int} {i:Int} (h:Int) (hc:Cu b i):∃ x i' h',spec_l1Byte.f b i h=some (x,i',h')∧0≤x∧x≤255∧Cu b i':=by
 obtain ⟨h0,h1,h2⟩:=hc
 unfold spec_l1Byte.f
 by_cases hl:i < (b.length:Int)
 ·rw [if_pos hl,if_pos h1]
  refine ⟨_,_,_,rfl,(and255 _).1,(and255 _).2,h0,?_⟩
  rw [w64 (by omega) (by omega)]
  omega
 ·rw [if_neg hl]
  exact ⟨_,_,_,rfl,(and255 _).1,(and255 _).2,h0,h1,h2⟩
theorem l1Below_ok {b:List Int} {i:Int} (h n:Int) (hc:Cu b i) (hn:1≤n) (hn':n≤256):∃ x i' h',spec_l1Below.f b i h n=some (x,i',h')∧0≤x∧x < n∧Cu b i':=by
 obtain ⟨x,i',h',e,h0,h1,hc'⟩:=l1Byte_ok h hc
 unfold spec_l1Below.f
 rw [if_neg (by omega),if_pos hn',e]
 simp only [Option.bind_some]
 rw [if_neg (by omega)]
 exact ⟨_,_,_,rfl,Int.tmod_nonneg _ h0,Int.tmod_lt_of_pos _ (by omega),hc'⟩
theorem l1Once_ok {b:List Int} {i:Int} (h n:Int) (hc:Cu b i) (hn:1≤n) (hn':n≤256):∃ x i' h',spec_l1Once.f b i h n=some (x,i',h')∧Cu b i':=by
 obtain ⟨x,i',h',e,_,_,hc'⟩:=l1Below_ok h n hc hn hn'
 unfold spec_l1Once.f
 rw [e]
 exact ⟨_,_,_,rfl,hc'⟩
theorem l1Pick_ok {b:List Int} {i:Int} (h:Int) (l:List ByteArray) (hc:Cu b i) (hn:1≤l.length) (hn':l.length≤256):∃ s i' h',spec_l1Pick.f b i h l=some (s,i',h')∧s ∈ l∧Cu b i':=by
 obtain ⟨x,i',h',e,h0,h1,hc'⟩:=l1Below_ok h (l.length:Int) hc (by omega) (by omega)
 unfold spec_l1Pick.f
 rw [e]
 simp only [Option.bind_some]
 rw [if_pos h0,if_pos h1]
 refine ⟨_,_,_,rfl,?_,hc'⟩
 have hx:x.toNat < l.length:=by omega
 unfold rdOf
 rw [List.getD_eq_getElem?_getD,List.getElem?_eq_getElem hx]
 exact List.getElem_mem hx
theorem l1New_ok (l:List Int) (hl:l.length≤1048576):∃ h,Evt (fun k=>spec_l1New.f k l) (l,0,h):=by
 have hh:∀ d i:Nat,i+d=l.length→∀ h:Int,∃ h',Evt (fun k=>spec_l1New.l0 k l h (i:Int)) (l,0,h'):=by
  intro d
  induction d with
  | zero =>
   intro i hi h
   refine ⟨h,Evt.step ?_⟩
   simp only [spec_l1New.l0]
   exact Evt.neg (by omega) (Evt.ret _)
  | succ d ih =>
   intro i hi h
   by_cases hm:(i:Int) < 4000
   ·obtain ⟨h',hn⟩:=ih (i+1) (by omega) (Go.bits .and .i64 (wrap64 ((wrap64 ((wrap64 (h * 131))+(wrap64 (rd l (i:Int)))))+7)) 1073741823)
    refine ⟨h',Evt.step ?_⟩
    simp only [spec_l1New.l0]
    rw [w64s (by omega)]
    exact Evt.pos (by omega) (Evt.pos hm (Evt.pos (by omega) hn))
   ·refine ⟨h,Evt.step ?_⟩
    simp only [spec_l1New.l0]
    exact Evt.pos (by omega) (Evt.neg hm (Evt.ret _))
 exact hh l.length 0 (by omega) _
theorem l2Word_ok {b:List Int} {i:Int} (h:Int) (n:Nat) (hc:Cu b i) (hn:n≤200):∃ s i' h',Evt (fun k=>spec_l2Word.f k b i h (n:Int)) (s,i',h')∧s.size≤n∧Cu b i':=by
 obtain ⟨m,i1,h1,e,m0,m1,hc1⟩:=l1Below_ok h ((n:Int)+1) hc (by omega) (by omega)
 obtain ⟨m,rfl⟩:=Int.eq_ofNat_of_zero_le m0
 have hh:∀ d j:Nat,j+d=m→∀ (acc:ByteArray) (i h:Int),acc.size≤j→Cu b i→∃ s i' h',Evt (fun k=>spec_l2Word.l0 k acc (m:Int) (j:Int) b i h) (s,i',h')∧s.size≤n∧Cu b i':=by
  intro d
  induction d with
  | zero =>
   intro j hj acc i h ha hc
   refine ⟨acc,i,h,Evt.step ?_,by omega,hc⟩
   simp only [spec_l2Word.l0]
   exact Evt.neg (by omega) (Evt.ret _)
  | succ d ih =>
   intro j hj acc i h ha hc
   obtain ⟨s,i',h',e,hs,hc'⟩:=l1Pick_ok h [(⟨#[97]⟩:ByteArray),(⟨#[98]⟩:ByteArray),(⟨#[97]⟩:ByteArray),(⟨#[98]⟩:ByteArray),(⟨#[99]⟩:ByteArray)] hc (by decide) (by decide)
   have hs1:s.size=1:=by
    simp only [List.mem_cons,List.not_mem_nil,or_false] at hs
    rcases hs with rfl|rfl|rfl|rfl|rfl <;> rfl
   obtain ⟨r,i2,h2,hr,hr2,hc2⟩:=ih (j+1) (by omega) (acc ++ s) i' h' (by rw [ByteArray.size_append];omega) hc'
   refine ⟨r,i2,h2,Evt.step ?_,hr2,hc2⟩
   simp only [spec_l2Word.l0]
   rw [w64s (by omega)]
   exact Evt.pos (by omega) (Evt.bindc e (Evt.pos (show acc.size+s.size≤9223372036854775807 by omega) hr))
 obtain ⟨s,i',h',hr,hr2,hc2⟩:=hh m 0 (by omega) (⟨#[]⟩:ByteArray) i1 h1 (Nat.le_refl _) hc1
 refine ⟨s,i',h',?_,hr2,hc2⟩
 simp only [spec_l2Word.f]
 rw [w64 (by omega) (by omega)]
 exact Evt.bindc e hr
theorem l2Any_ok {b:List Int} {i:Int} (h:Int) (hc:Cu b i):∃ s i' h',Evt (fun k=>spec_l2Any.f k b i h) (s,i',h')∧s.size≤31∧Cu b i':=by
 obtain ⟨s,i1,h1,e,hs,hc1⟩:=l2Word_ok h 6 hc (by omega)
 obtain ⟨r,i2,h2,e2,hr,hc2⟩:=l1Pick_ok h1 [(⟨#[]⟩:ByteArray),(⟨#[97]⟩:ByteArray),(⟨#[97,98,99]⟩:ByteArray),(⟨#[99,99]⟩:ByteArray),(⟨#[97,98,100]⟩:ByteArray),(⟨#[65]⟩:ByteArray),(⟨#[99,99,99,99,99,99,99,99,99,99,99,99,99,99,99,99,99,99,99,99,99,99,99,99,99,99,99,99,99,99]⟩:ByteArray),(⟨#[97,97,97,97,97,97,97,97,97,97,97,97,97,97,97,97,97,97,97,97,97,97,97,97,97,97,97,97,97,97,97]⟩:ByteArray),(⟨#[97,99,99]⟩:ByteArray),s] hc1 (by simp) (by simp)
 refine ⟨r,i2,h2,?_,?_,hc2⟩
 ·simp only [spec_l2Any.f]
  exact Evt.bind e (Evt.bindc e2 (Evt.ret _))
 ·simp only [List.mem_cons,List.not_mem_nil,or_false] at hr
  rcases hr with rfl|rfl|rfl|rfl|rfl|rfl|rfl|rfl|rfl|rfl
  all_goals first|decide|omega
theorem cu0 {l:List Int} (hl:l.length≤1048576):Cu l 0:=⟨hl,Int.le_refl _,by omega⟩
theorem pickInt_ok {b:List Int} {i:Int} (h:Int) (l:List Int) (hc:Cu b i) (hn:1≤l.length) (hn':l.length≤256):∃ s i' h',spec_l1PickInt.f b i h l=some (s,i',h')∧Cu b i':=by
 obtain ⟨x,i',h',e,h0,h1,hc'⟩:=l1Below_ok h (l.length:Int) hc (by omega) (by omega)
 unfold spec_l1PickInt.f
 rw [e]
 exact ⟨_,_,_,by simp only [Option.bind_some];rw [if_pos h0,if_pos h1],hc'⟩
theorem l5Draw_ok {b:List Int} {i:Int} (h most:Int) (hc:Cu b i) (hm:1≤most) (hm':most≤30):∃ A X i' h',Evt (fun k=>spec_l5Draw.f k b i h most) (A,X,i',h')∧dfaB A X=true∧(A.length:Int)≤most∧Cu b i':=by
 obtain ⟨x,i1,h1,e1,x0,x1,c1⟩:=l1Below_ok h most hc hm (by omega)
 obtain ⟨x,rfl⟩:=Int.eq_ofNat_of_zero_le x0
 have hw:wrap64 (1+(x:Int))=((x+1:Nat):Int):=by rw [w64 (by omega) (by omega)];omega
 have hl:∀ d j:Nat,j+d=x+1→∀ (i2 h2:Int) (A:List Bool) (X:List (List Int)),Cu b i2→A.length=j→X.length=j→(∀ r ∈ X,dfRow (x+1) r=true)→∃ A' X' i' h',Evt (fun k=>spec_l5Draw.l0 k ((x+1:Nat):Int) (j:Int) b i2 h2 A X) (A',X',i',h')∧dfaB A' X'=true∧A'.length=x+1∧Cu b i':=by
  intro d
  induction d with
  | zero =>
   intro j hj i2 h2 A X c2 hA hX hR
   refine ⟨A,X,i2,h2,Evt.step ?_,?_,by omega,c2⟩
   ·simp only [spec_l5Draw.l0]
    exact Evt.neg (by omega) (Evt.ret _)
   ·unfold dfaB
    simp only [Bool.and_eq_true,decide_eq_true_eq,List.all_eq_true]
    rw [show A.length=x+1 by omega]
    exact ⟨by omega,by omega,hR⟩
  | succ d ih =>
   intro j hj i2 h2 A X c2 hA hX hR
   obtain ⟨o,i3,h3,e3,c3⟩:=l1Once_ok h2 2 c2 (by omega) (by omega)
   obtain ⟨a,i4,h4,e4,a0,a1,c4⟩:=l1Below_ok h3 ((x+1:Nat):Int) c3 (by omega) (by omega)
   obtain ⟨a',i5,h5,e5,a0',a1',c5⟩:=l1Below_ok h4 ((x+1:Nat):Int) c4 (by omega) (by omega)
   obtain ⟨a'',i6,h6,e6,a0'',a1'',c6⟩:=l1Below_ok h5 ((x+1:Nat):Int) c5 (by omega) (by omega)
   obtain ⟨A',X',i7,h7,e7,r1,r2,c7⟩:=ih (j+1) (by omega) i6 h6 (A ++ [o]) (X ++ [[a,a',a'']]) c6 (by simp;omega) (by simp;omega) (fun r hr=>by
    rcases List.mem_append.1 hr with hr|hr
    ·exact hR r hr
    ·rw [List.mem_singleton.1 hr]
     unfold dfRow dfIn
     simp only [Bool.and_eq_true,decide_eq_true_eq,List.all_eq_true,List.mem_cons,List.not_mem_nil,or_false]
     refine ⟨rfl,fun q hq=>?_⟩
     rcases hq with rfl|rfl|rfl <;> omega)
   refine ⟨A',X',i7,h7,Evt.step ?_,r1,r2,c7⟩
   simp only [spec_l5Draw.l0]
   refine Evt.pos (by omega) (Evt.bindc e3 (Evt.pos (by omega) (Evt.step ?_)))
   simp only [spec_l5Draw.l1]
   refine Evt.pos (by omega) (Evt.bindc e4 (Evt.pos (by simp) (Evt.step ?_)))
   simp only [spec_l5Draw.l1]
   rw [show wrap64 (0+1)=1 from by unfold wrap64;omega]
   refine Evt.pos (by omega) (Evt.bindc e5 (Evt.pos (by simp) (Evt.step ?_)))
   simp only [spec_l5Draw.l1]
   rw [show wrap64 (1+1)=2 from by unfold wrap64;omega]
   refine Evt.pos (by omega) (Evt.bindc e6 (Evt.pos (by simp) (Evt.step ?_)))
   simp only [spec_l5Draw.l1]
   rw [show wrap64 (2+1)=3 from by unfold wrap64;omega,w64s (i:=j) (by omega)]
   exact Evt.neg (by omega) (Evt.pos (by omega) e7)
 obtain ⟨A,X,i',h',e,r1,r2,r3⟩:=hl (x+1) 0 (by omega) i1 h1 [] [] c1 rfl rfl (by simp)
 refine ⟨A,X,i',h',?_,r1,by omega,r3⟩
 simp only [spec_l5Draw.f]
 refine Evt.bindc e1 ?_
 dsimp only
 rw [hw]
 exact e
theorem dfa_rows {A:List Bool} {X:List (List Int)} (h:dfaB A X=true):A.length≤40∧1≤A.length∧X.length=A.length∧∀ r ∈ X,r.length=3:=by
 have hX:=dfaX_of h
 exact ⟨hX.hi,hX.lo,hX.len,fun r hr=>(hX.row r hr).1⟩
theorem rows_set {X:List (List Int)} {r:List Int} (n:Nat) (hX:RowsLe X 1048576) (hr:r.length≤1048576):RowsLe (X.set n r) 1048576:=by
 refine ⟨by rw [List.length_set];exact hX.1,fun x hx=>?_⟩
 rcases List.mem_or_eq_of_mem_set hx with h|h
 ·exact hX.2 x h
 ·rw [h];exact hr
theorem row0 {X:List (List Int)} {n:Nat} (hX:1≤X.length) (h:∀ r ∈ X,r.length=n):(rd_L3 X 0).length=n:=h _ (rows_in X 0 (by omega) (by omega))
theorem l5Bent_ok {b:List Int} {i:Int} (h:Int) (hc:Cu b i):∃ A X i' h',Evt (fun k=>spec_l5Bent.f k b i h) (A,X,i',h')∧A.length≤1048576∧RowsLe X 1048576∧Cu b i':=by
 obtain ⟨A,X,i1,h1,e1,hd,_,c1⟩:=l5Draw_ok h 5 hc (by omega) (by omega)
 obtain ⟨x,i2,h2,e2,x0,x1,c2⟩:=l1Below_ok h1 12 c1 (by omega) (by omega)
 obtain ⟨d1,d2,d3,d4⟩:=dfa_rows hd
 have hR:RowsLe X 1048576:=⟨by omega,fun r hr=>by have:=d4 r hr;omega⟩
 have h0:=row0 (by omega) d4
 simp only [spec_l5Bent.f]
 by_cases q0:x=0
 ·exact ⟨_,_,_,_,Evt.bind e1 (Evt.bindc e2 (Evt.pos q0 (Evt.pos (by dsimp only;omega) (Evt.pos (by dsimp only;omega) (Evt.ret _))))),by dsimp only;omega,rows_set _ hR (by rw [List.length_set];dsimp only;omega),c2⟩
 ·by_cases q1:x=1
  ·exact ⟨_,_,_,_,Evt.bind e1 (Evt.bindc e2 (Evt.neg q0 (Evt.pos q1 (Evt.pos (by dsimp only;omega) (Evt.ret _))))),by simp;omega,hR,c2⟩
  ·by_cases q2:x=2
   ·exact ⟨_,_,_,_,Evt.bind e1 (Evt.bindc e2 (Evt.neg q0 (Evt.neg q1 (Evt.pos q2 (Evt.pos (by dsimp only;omega) (Evt.pos (by dsimp only;omega) (Evt.ret _))))))),by dsimp only;omega,rows_set _ hR (by simp;omega),c2⟩
   ·exact ⟨_,_,_,_,Evt.bind e1 (Evt.bindc e2 (Evt.neg q0 (Evt.neg q1 (Evt.neg q2 (Evt.ret _))))),by dsimp only;omega,hR,c2⟩
theorem drawBuildMonoid_ok (l:List Int) (hl:l.length≤1048576):∃ A X,Evt (fun k=>spec_DrawBuildMonoid.f k l) (A,X)∧A.length≤1048576∧RowsLe X 1048576:=by
 obtain ⟨h,e0⟩:=l1New_ok l hl
 obtain ⟨o,i1,h1,e1,c1⟩:=l1Once_ok h 4 (cu0 hl) (by omega) (by omega)
 simp only [spec_DrawBuildMonoid.f]
 cases o with
 | true =>
  obtain ⟨A,X,i2,h2,e2,a1,a2,_⟩:=l5Bent_ok h1 c1
  exact ⟨A,X,Evt.bind e0 (Evt.bindc e1 (Evt.pos rfl (Evt.bind e2 (Evt.ret _)))),a1,a2⟩
 | false =>
  obtain ⟨A,X,i2,h2,e2,hd,_,_⟩:=l5Draw_ok h1 3 c1 (by omega) (by omega)
  obtain ⟨d1,d2,d3,d4⟩:=dfa_rows hd
  exact ⟨A,X,Evt.bind e0 (Evt.bindc e1 (Evt.neg zff (Evt.bind e2 (Evt.ret _)))),by omega,⟨by omega,fun r hr=>by have:=d4 r hr;omega⟩⟩
theorem l13Draw_ok {b:List Int} {i:Int} (h:Int) (hc:Cu b i):∃ P L D i' h',Evt (fun k=>spec_l13Draw.f k b i h) (P,L,D,i',h')∧P.length≤30∧1≤P.length∧L.length=3∧D.length=P.length∧(∀ r ∈ D,r.length=P.length)∧Cu b i':=by
 obtain ⟨A,X,i1,h1,e1,hd,hA,c1⟩:=l5Draw_ok h 3 hc (by omega) (by omega)
 obtain ⟨d1,d2,d3,d4⟩:=dfa_rows hd
 obtain ⟨q,_,e2,_,f1,f2⟩:=buildMonoid_full A X (by omega) ⟨by omega,fun r hr=>by have:=d4 r hr;omega⟩
 obtain ⟨_,F⟩:=f1 (f2 hd (by omega))
 obtain ⟨P,L,D,o⟩:=q
 refine ⟨P,L,D,i1,h1,?_,F.len,?_,by rw [show L=_ from F.num];rfl,by rw [show D=_ from F.tab,List.length_map],fun r hr=>?_,c1⟩
 ·simp only [spec_l13Draw.f]
  exact Evt.bind e1 (Evt.bind e2 (Evt.ret _))
 ·obtain ⟨t,e⟩:=F.hd
  rw [show P=_ from e];simp
 ·rw [show D=_ from F.tab] at hr
  obtain ⟨y,_,rfl⟩:=List.mem_map.1 hr
  rw [tabRow,List.length_map]
def MonSm (P:List (List Int)) (L:List Int) (D:List (List Int)):Prop:=P.length≤30∧L.length≤10∧∀ r ∈ D,r.length≤100
theorem l13Bent_ok {b:List Int} {i:Int} (h:Int) (hc:Cu b i):∃ P L D i' h',Evt (fun k=>spec_l13Bent.f k b i h) (P,L,D,i',h')∧MonSm P L D∧Cu b i':=by
 obtain ⟨P,L,D,i1,h1,e1,p1,p2,p3,p4,p5,c1⟩:=l13Draw_ok h hc
 obtain ⟨x,i2,h2,e2,x0,x1,c2⟩:=l1Below_ok h1 12 c1 (by omega) (by omega)
 have h0:=row0 (by omega) p5
 have hD:∀ r ∈ D,r.length≤100:=fun r hr=>by have:=p5 r hr;omega
 simp only [spec_l13Bent.f]
 by_cases q0:x=0
 ·exact ⟨_,_,_,_,_,Evt.bind e1 (Evt.bindc e2 (Evt.pos q0 (Evt.pos (by dsimp only;omega) (Evt.ret _)))),⟨p1,by simp;omega,hD⟩,c2⟩
 ·by_cases q1:x=1
  ·refine ⟨_,_,_,_,_,Evt.bind e1 (Evt.bindc e2 (Evt.neg q0 (Evt.pos q1 (Evt.pos (by dsimp only;omega) (Evt.ret _))))),⟨p1,by dsimp only;omega,fun r hr=>?_⟩,c2⟩
   rcases List.mem_append.1 hr with hr|hr
   ·exact hD r hr
   ·rw [List.mem_singleton.1 hr];simp
  ·by_cases q2:x=2
   ·obtain ⟨v,i3,h3,e3,c3⟩:=pickInt_ok h2 [(-1),99,0] c2 (by decide) (by decide)
    refine ⟨_,_,_,_,_,Evt.bind e1 (Evt.bindc e2 (Evt.neg q0 (Evt.neg q1 (Evt.pos q2 (Evt.pos (by dsimp only;omega) (Evt.bindc e3 (Evt.pos (by dsimp only;omega) (Evt.ret _)))))))),⟨p1,by dsimp only;omega,fun r hr=>?_⟩,c3⟩
    rcases List.mem_or_eq_of_mem_set hr with hr|hr
    ·exact hD r hr
    ·rw [hr,List.length_set];dsimp only;omega
   ·exact ⟨_,_,_,_,_,Evt.bind e1 (Evt.bindc e2 (Evt.neg q0 (Evt.neg q1 (Evt.neg q2 (Evt.ret _))))),⟨p1,by dsimp only;omega,hD⟩,c2⟩
theorem drawWordOfMap_ok (l:List Int) (hl:l.length≤1048576):∃ P L D a,Evt (fun k=>spec_DrawWordOfMap.f k l) (P,L,D,a)∧MonSm P L D:=by
 obtain ⟨h,e0⟩:=l1New_ok l hl
 obtain ⟨P,L,D,i1,h1,e1,m,c1⟩:=l13Bent_ok h (cu0 hl)
 have hw:wrap64 ((P.length:Int)+2)=(P.length:Int)+2:=by have:=m.1;rw [w64 (by omega) (by omega)]
 obtain ⟨x,i2,h2,e2,_,_,_⟩:=l1Below_ok h1 ((P.length:Int)+2) c1 (by omega) (by have:=m.1;omega)
 simp only [spec_DrawWordOfMap.f]
 refine ⟨P,L,D,_,Evt.bind e0 (Evt.bind e1 (Evt.bindc (a:=(x,i2,h2)) ?_ (Evt.ret _))),m⟩
 dsimp only
 rw [hw]
 exact e2
theorem drawMapOf_ok (l:List Int) (hl:l.length≤1048576):∃ P L D s,Evt (fun k=>spec_DrawMapOf.f k l) (P,L,D,s)∧MonSm P L D∧s.size≤31:=by
 obtain ⟨h,e0⟩:=l1New_ok l hl
 obtain ⟨P,L,D,i1,h1,e1,m,c1⟩:=l13Bent_ok h (cu0 hl)
 obtain ⟨s,i2,h2,e2,hs,_⟩:=l2Any_ok h1 c1
 simp only [spec_DrawMapOf.f]
 exact ⟨P,L,D,s,Evt.bind e0 (Evt.bind e1 (Evt.bind e2 (Evt.ret _))),m,hs⟩
end Go.Proofs.Ythkbgoohiinmbaa.F
namespace Go.Proofs.Ythkbgoohiinmbaa.Pure
open Go Go.RowKit YthkbgoohiinmbaaW.PrintWords Ythkbgoohiinmbaa.Pl Ythkbgoohiinmbaa.F Ythkbgoohiinmbaa.A Ythkbgoohiinmbaa.Ext
theorem ev_mono {α:Type} {g:Nat→Option α} {r:α} (hm:∀ k,LeO (g k) (g (k+1))) {K:Nat} (h:g K=some r):Evt g r:=by
 refine ⟨K,fun k hk=>?_⟩
 obtain ⟨d,rfl⟩:∃ d,k=K+d:=⟨k - K,by omega⟩
 clear hk
 induction d with
 | zero=>exact h
 | succ d ih=>exact hm _ r ih
def w2Ok:Bool:=match spec_WordsUpTo.f 3000 2 with
 | some a=>(a.all fun w=>allL (bytesOf w) && decide (w.size≤2)) && decide (a.length≤4000000)
 | none=>false
theorem w2_ok:w2Ok=true:=by decide +kernel
def Wo (w:ByteArray):Prop:=(∀ c ∈ bytesOf w,0≤ltI c)∧w.size≤2
theorem w2_ev:∃ ws:List ByteArray,Evt (fun k=>spec_WordsUpTo.f k 2) ws∧(∀ w ∈ ws,Wo w)∧ws.length≤4000000:=by
 have h:=w2_ok
 unfold w2Ok at h
 cases ha:spec_WordsUpTo.f 3000 2 with
 | none=>rw [ha] at h;exact absurd h (by decide)
 | some a =>
  rw [ha] at h
  simp only [List.all_eq_true,Bool.and_eq_true,decide_eq_true_eq] at h
  refine ⟨a,ev_mono (fun k=>spec_WordsUpTo.mono 2 k) ha,fun w hw=>⟨?_,(h.1 w hw).2⟩,h.2⟩
  have:=(h.1 w hw).1
  unfold allL at this
  simpa only [List.all_eq_true,decide_eq_true_eq] using this
theorem isW_of {s:ByteArray} (h:∀ c ∈ bytesOf s,0≤ltI c) (hs:s.size≤30):isW s=true:=by
 unfold isW allL
 simp only [Bool.and_eq_true,List.all_eq_true,decide_eq_true_eq]
 exact ⟨h,hs⟩
theorem ws_at (ws:List ByteArray) (i:Nat) (h:i < ws.length):rdOf ByteArray.empty ws (i:Int) ∈ ws:=rdOf_mem ws i h
theorem tail_ev (l:List Int) (hl:l.length≤1048576) (x5:Bool) (ws:List ByteArray) (x9:Int) (A:List Bool) (X P:List (List Int)) (L:List Int) (D:List (List Int)) :
  Evt (fun k=>laws_FnMonoid.j2 k l x5 ws x9 false A X P L D) true:=by
 obtain ⟨P',L',D',a,e1,m1,m2,m3⟩:=drawWordOfMap_ok l hl
 obtain ⟨P'',L'',D'',s,e2,⟨n1,n2,n3⟩,hs⟩:=drawMapOf_ok l hl
 obtain ⟨⟨r1,r2⟩,e3,e4⟩:=WordOfMap_ev P' L' D' a (by omega) (by omega) (fun r hr=>by have:=m3 r hr;omega)
 obtain ⟨⟨p1,p2⟩,e5,e6⟩:=MapOf_ev s P'' L'' D'' (by omega) (by omega) (by omega) (fun r hr=>by have:=n3 r hr;omega)
 obtain ⟨⟨w1,w2,w3⟩,w4⟩:=wordOfMap_end e4
 have hm:∃ q,Evt (fun k=>impl_MapOf.f k P' L' D' r1) q∧(r2=true→q=(a,true)):=by
  cases r2 with
  | true =>
   have h:=mapOf_val r1 P' L' D' (by dsimp only at w2;omega) (isW_of w1 (by dsimp only at w2;omega)) (w4 rfl)
   exact ⟨_,h,fun _=>by rw [show mw L' D' 0 (bytesOf r1)=a from w3 rfl]⟩
  | false =>
   obtain ⟨q,_,h⟩:=MapOf_ev r1 P' L' D' (by dsimp only at w2;omega) (by omega) (by omega) (fun r hr=>by have:=m3 r hr;omega)
   exact ⟨q,h,fun h=>absurd h (by decide)⟩
 obtain ⟨q,e7,hq⟩:=hm
 refine Evt.step ?_
 simp only [laws_FnMonoid.j2]
 refine Evt.neg (by decide) (Evt.bind e1 (Evt.bindc e4 (Evt.bind e3 (Evt.bind e2 (Evt.bind e6 (Evt.bind e5 (Evt.bind e7 (Evt.pos rfl (Evt.pos (by simp) (Evt.pos rfl (Evt.pos (by simp) ?_)))))))))))
 cases r2 with
 | true =>
  rw [hq rfl]
  exact Evt.pos rfl (Evt.pos rfl ((Evt.ret _).cast (by simp)))
 | false=>exact Evt.neg zff (Evt.ret _)
section
variable {A : List Bool} {X P : List (List Int)} {L : List Int} {D : List (List Int)} (hd : dfaB A X = true) (F : FullM A.length X (P, L, D, true)) {l : List Int} (hl : l.length ≤ 1048576) {ws : List ByteArray} (hws : ∀ w ∈ ws, Wo w) (hlen : ws.length ≤ 4000000)
include hd F
theorem word_ev (s:ByteArray) (h:∀ c ∈ bytesOf s,0≤ltI c) (hs:s.size≤30):Evt (fun k=>impl_MapOf.f k P L D s) (numOf P (acts X (idR A.length) (bytesOf s)),true):=by
 have hX:=dfaX_of hd
 have e:=mapOf_val s P L D (by omega) (isW_of h hs) (full_well hX F)
 have e2:=(full_walk hX F (bytesOf s) h _ (id_mem hX F)).1
 rw [num_id hX F] at e2
 exact e.cast (by rw [show mw L D 0 (bytesOf s)=_ from e2])
theorem word_mem (s:ByteArray) (h:∀ c ∈ bytesOf s,0≤ltI c):acts X (idR A.length) (bytesOf s) ∈ P:=(full_walk (dfaX_of hd) F (bytesOf s) h _ (id_mem (dfaX_of hd) F)).2
include hl hws hlen
theorem loop_ev:Evt (fun k=>laws_FnMonoid.l0 k l true ws 0 A X P L D) true:=by
 have hX:=dfaX_of hd
 have hhi:=hX.hi
 have hP:=F.len
 dsimp only at hP
 have hD:D=P.map (tabRow P):=F.tab
 have h:∀ d i:Nat,i+d=ws.length→Evt (fun k=>laws_FnMonoid.l0 k l true ws (i:Int) A X P L D) true:=by
  intro d
  induction d with
  | zero =>
   intro i hi
   refine Evt.step ?_
   simp only [laws_FnMonoid.l0]
   exact Evt.neg (by omega) (tail_ev l hl true ws _ A X P L D)
  | succ d ih =>
   intro i hi
   have hmi:=ws_at ws i (by omega)
   obtain ⟨u1,u2⟩:=hws _ hmi
   refine Evt.step ?_
   simp only [laws_FnMonoid.l0]
   refine Evt.pos (by omega) (Evt.step ?_)
   simp only [laws_FnMonoid.j2]
   have hw:=word_ev hd F _ u1 (by omega)
   have hwm:=word_mem hd F _ u1
   have hrun:∀ q:Nat,q < A.length→Evt (fun k=>spec_RunDfa.f k A X (q:Int) (rdOf ByteArray.empty ws (i:Int))) (rd (acts X (idR A.length) (bytesOf (rdOf ByteArray.empty ws (i:Int)))) (q:Int),true):=by
    intro q hq
    have e:=runDfa_ev A X hd q hq _ (by omega) (isW_of u1 (by omega))
    exact e.cast (by rw [acts_run hX q hq _ u1 _ (id_good _),rd_id hq])
   have htwo:∀ s:ByteArray,(∀ c ∈ bytesOf s,0≤ltI c)→s.size≤2→Evt (fun k=>impl_MapOf.f k P L D (rdOf ByteArray.empty ws (i:Int) ++ s)) (numOf P (aft (acts X (idR A.length) (bytesOf (rdOf ByteArray.empty ws (i:Int)))) (acts X (idR A.length) (bytesOf s))),true):=by
    intro s hs1 hs2
    have e:=word_ev hd F (rdOf ByteArray.empty ws (i:Int) ++ s) (fun c hc=>by
     rw [bytesOf_append] at hc
     rcases List.mem_append.1 hc with hc|hc
     ·exact u1 c hc
     ·exact hs1 c hc) (by rw [ByteArray.size_append];omega)
    rw [bytesOf_append,acts_two hX F _ _ u1 hs1] at e
    exact e
   generalize hwi:rdOf ByteArray.empty ws (i:Int)=w at u2 hw hwm hrun htwo ⊢
   generalize acts X (idR A.length) (bytesOf w)=r at hw hwm hrun htwo ⊢
   obtain ⟨m,hm,em,h1,_⟩:=numOf_spec hwm
   rw [getD_i P m hm] at h1
   have hrow:rd_L3 P (m:Int)=r:=by rw [rows_at P m hm,h1]
   have hrl:r.length=A.length:=(F.good r hwm).1
   have hDl:D.length=P.length:=by rw [hD,List.length_map]
   have hdrow:rd_L3 D (m:Int)=tabRow P r:=by
    rw [rows_at D m (by omega)]
    simp only [hD,List.getElem_map,h1]
   rw [em] at hw
   refine Evt.pos trivial (Evt.pos (by omega) (Evt.pos (by omega) (Evt.bind hw (Evt.pos rfl (Evt.step ?_)))))
   simp only [laws_FnMonoid.j3]
   refine Evt.neg (by simp;omega) ?_
   have hl2:∀ d2 j:Nat,j+d2=ws.length→Evt (fun k=>laws_FnMonoid.l2 k l true ws (i:Int) (m:Int) (j:Int) A X P L D) true:=by
    intro d2
    induction d2 with
    | zero =>
     intro j hj
     refine Evt.step ?_
     simp only [laws_FnMonoid.l2]
     rw [w64s (i:=i) (by omega)]
     exact Evt.neg (by omega) (ih (i+1) (by omega))
    | succ d2 ih2 =>
     intro j hj
     have hmj:=ws_at ws j (by omega)
     obtain ⟨v1,v2⟩:=hws _ hmj
     have hv:=word_ev hd F _ v1 (by omega)
     have hvm:=word_mem hd F _ v1
     have hvw:=htwo _ v1 v2
     refine Evt.step ?_
     simp only [laws_FnMonoid.l2]
     rw [hwi]
     generalize rdOf ByteArray.empty ws (j:Int)=v at v2 hv hvm hvw ⊢
     generalize acts X (idR A.length) (bytesOf v)=s at hv hvm hvw
     obtain ⟨m2,hm2,em2,_,_⟩:=numOf_spec hvm
     have ht:=tab_at P r s hvm
     rw [em2] at hv ht
     refine Evt.pos (by omega) (Evt.pos (by omega) (Evt.bind hv (Evt.pos (by omega) (Evt.pos (by omega) (Evt.pos (by omega) (Evt.bind hvw (Evt.pos (by omega) (Evt.pos (by omega) (Evt.pos (by dsimp only;omega) ?_)))))))))
     rw [hdrow,w64s (i:=j) (by omega)]
     exact Evt.pos (by rw [tabRow,List.length_map];dsimp only;omega) (Evt.pos ht (ih2 (j+1) (by omega)))
   have hl1:∀ d1 q:Nat,q+d1=A.length→Evt (fun k=>laws_FnMonoid.l1 k l true ws (i:Int) (m:Int) (q:Int) A X P L D) true:=by
    intro d1
    induction d1 with
    | zero =>
     intro q hq
     refine Evt.step ?_
     simp only [laws_FnMonoid.l1]
     exact Evt.neg (by omega) (hl2 ws.length 0 (by omega))
    | succ d1 ih1 =>
     intro q hq
     have hr:=hrun q (by omega)
     refine Evt.step ?_
     simp only [laws_FnMonoid.l1]
     rw [hwi,hrow,w64s (i:=q) (by omega)]
     exact Evt.pos (by omega) (Evt.pos (by omega) (Evt.pos (by omega) (Evt.bind hr (Evt.pos (by omega) (Evt.pos (by omega) (Evt.pos (by omega) (Evt.pos (by omega) (Evt.pos rfl (ih1 (q+1) (by omega))))))))))
   exact hl1 A.length 0 (by omega)
 exact h ws.length 0 (by omega)
end
theorem FnMonoid:FnMonoid.Pure:=by
 intro l hl
 refine Evt.get (g:=fun k=>laws_FnMonoid.f k l) ?_
 simp only [laws_FnMonoid.f]
 refine Evt.bindc (a:=decide ((l.length:Int) > 1048576)) rfl ?_
 by_cases hb:(l.length:Int) > 1048576
 ·exact Evt.pos (decide_eq_true hb) (Evt.ret _)
 refine Evt.neg (by simp;omega) ?_
 have hl':l.length≤1048576:=by omega
 obtain ⟨A,X,e1,a1,a2⟩:=drawBuildMonoid_ok l hl'
 obtain ⟨⟨P,L,D,o⟩,e2,e3,b1,b2,_⟩:=buildMonoid_full A X a1 a2
 obtain ⟨ws,e5,hws⟩:=w2_ev
 refine Evt.bind e1 (Evt.bind e2 (Evt.bind e3 (Evt.neg (by simp) (Evt.bind (a:=true) ?_ (Evt.step ?_)))))
 ·simp only [impl_EqualMonoid.f]
  exact Evt.bindc rfl (Evt.pos (by simp) (Evt.bind (slEq_ev L L (by have:=b1.2.1;dsimp only at this;omega)) (Evt.pos (by simp) (Evt.bindc rfl ((Evt.ret _).cast (by simp))))))
 ·simp only [laws_FnMonoid.j0]
  refine Evt.neg (by simp) (Evt.bind e5 ?_)
  cases o with
  | true =>
   obtain ⟨hd,F⟩:=b2 rfl
   exact loop_ev hd F hl' hws.1 hws.2
  | false =>
   refine Evt.step ?_
   simp only [laws_FnMonoid.l0]
   by_cases h0:(0:Int) < (ws.length:Int)
   ·exact Evt.pos h0 (tail_ev l hl' false ws _ A X P L D)
   ·exact Evt.neg h0 (tail_ev l hl' false ws _ A X P L D)
end Go.Proofs.Ythkbgoohiinmbaa.Pure
namespace Go.Proofs.Ythkbgoohiinmbaa.fnMonoid
open Go.ChangeShapes Go.WideShapes Go.ChangeAt Go.RowKit Ythkbgoohiinmbaa.Br YthkbgoohiinmbaaW.PrintWords Ythkbgoohiinmbaa.A
open Go.ChangeMaps (open_string shut_string)
theorem own:ownKnob Try.prog.godebug=none:=by kernel_rfl
theorem laidOut:laidOutB Try.prog=true:=by kernel_rfl
set_option maxHeartbeats 2000000 in
theorem lifted (os:Os) (started:os.Started) (H:Type) (enc:TypeId × Value→H) :
  ReturnsInHanded {} Try.checked os 3 .any (Rows.fnMonoidSpec.pre6 enc Try.prog Try.f3 Rows.fnMonoidRow.domain false) (Rows.fnMonoidSpec.post enc Try.prog Try.f3 false true false false):=by
 refine returnsInHanded_of_change_sized (C:=Try.checked) own started (by kernel_rfl) Try.func3
  (ChangeSpec.witness6 (enc:=enc) (C:=Try.checked) false ⟨#[],#[.slice none 0 0],[]⟩ 8 (by kernel_rfl) (by kernel_rfl) (by kernel_rfl) (by kernel_rfl)) ?_
 intro W base args ds gs before hval0 hW hcnd hsz0 _
 have hval:∀ (j:Nat) t v,Try.f3.params[j]? = some t→args[j]? = some v→Value.okWide Try.prog W .any base t v:=hval0
 have hW':=hW
 obtain ⟨p,q,hA0,hV,rfl,hfz,hnd⟩:=hW
 have hA:DataW.TrodAll enc Try.prog W 0 (fun _=>true) true Try.f3.params.toList args.toList ds p:=hA0
 rw [Try.params3] at hA hval
 obtain ⟨v0,vs0,d0,ds0,p0,q0,hargs,rfl,rfl,h0,r0⟩:=trodAll_cons hA
 obtain ⟨rfl,rfl,rfl⟩:=trodAll_nil r0
 obtain rfl:args = #[v0]:=by cases args;simp_all
 obtain ⟨rfl,rfl⟩:=trodVars_none hV
 have k0:=h0
 have lt0:∀ x ∈ p0,x.block < W.heap.size:=by obtain ⟨m,hm⟩:=k0;exact DataW.trod_lt m _ _ _ hm
 obtain ⟨aa0,len0,cap0,rfl⟩:=okWide_slice Try.underlying22 (hval 0 22 v0 rfl rfl)
 obtain ⟨fuel0,hf0⟩:=h0
 obtain ⟨l0,⟨A0,c0,hcs0,hc0,hr0⟩,w0⟩:=(show ∀ n,BrN Try.prog n 22 _ _ from fun n=>(br_slice' Try.underlying22 (show Try.prog.cellsOf 5=1 by kernel_rfl) (fun n=>(br_int Try.underlying5 n)) n)) fuel0 H enc W 0 (fun _=>true) true fuel0 _ _ (Nat.le_refl _) hf0
 obtain ⟨rfl,rfl,rfl⟩:aa0=A0∧len0=l0.length∧cap0=c0:=by simpa [Value.cells] using hcs0
 clear hA0 hval0 hsz0
 obtain ⟨k,hp⟩:=Pure.FnMonoid l0 w0
 refine (laws_FnMonoid.calls k _ _ l0 true W hr0 hc0 hp rfl).mono fun e W' ⟨he,bel0⟩ => ?_
 subst he
 have bel:Below W.heap.size W W':=bel0
 exact ⟨_,rfl,_,_,_,[],_,[],hW',trodAll_mk1 (shut_bool Try.underlying4 _),(trodAll_cons_mk (Below.trod laidOut (by kernel_rfl) (of_decide_eq_true (by kernel_rfl)) k0 bel lt0) trodAll_mk0),rfl,bel.frame _,fun h=>by cases h⟩
theorem fact0:(Rows.fnMonoidRow.inPlace == Try.pinned.checked.prog.inPlace 3)=true:=by kernel_rfl
theorem fact1:(Rows.fnMonoidRow.unfollowed == Try.pinned.checked.prog.unfollowed 3)=true:=by kernel_rfl
theorem fact2:(Rows.fnMonoidRow.recurses == Try.pinned.checked.prog.recurses 3)=true:=by kernel_rfl
theorem fact3:(Rows.fnMonoidRow.named == Try.pinned.checked.prog.varsNamed 3)=true:=by kernel_rfl
theorem facts:joinedFacts Try.pinned.checked.prog 3 Try.f3 Rows.fnMonoidSpec Rows.fnMonoidRow=true:=by
 unfold joinedFacts
 rw [fact0,fact1,fact2,fact3]
 kernel_rfl
theorem known:Try.pinned.checked.prog.funcNamed Rows.fnMonoidRow.func=some 3:=by kernel_rfl
theorem inst:Try.f3.isInstance Try.pinned.checked.prog Rows.fnMonoidRow.origin Rows.fnMonoidRow.targs:=of_decide_eq_true (by kernel_rfl)
theorem wrap:Try.f3.isWrapper Try.pinned.checked.prog Rows.fnMonoidRow.wrapper Rows.fnMonoidRow.mainSum:=by unfold Func.isWrapper;first|(rw [if_pos (by decide +kernel)];kernel_rfl)|(rw [if_neg (by decide +kernel)];exact ⟨rfl,rfl⟩)
theorem over:Rows.fnMonoidRow.holds Try.pinned (OpenSpec.ofChange Rows.fnMonoidSpec) :=
 OpenClaim.holds_of_wide 3 Try.f3 rfl rfl rfl rfl rfl rfl rfl ⟨rfl,rfl,rfl,rfl,rfl⟩ rfl rfl rfl rfl rfl known Try.func3 facts inst wrap
  (fun os started H enc _=>lifted os started H enc)
theorem proved:Rows.FnMonoidSaid:=over
#print axioms proved
end Go.Proofs.Ythkbgoohiinmbaa.fnMonoid
namespace Go.Proofs.Ythkbgoohiinmbaa
theorem fnMonoid_holds:Rows.FnMonoidSaid:=fnMonoid.proved
end Go.Proofs.Ythkbgoohiinmbaa
