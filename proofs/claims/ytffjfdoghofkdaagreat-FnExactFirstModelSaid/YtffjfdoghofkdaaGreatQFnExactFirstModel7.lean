/- FnExactFirstModel: what its proof needs, put together by this session's program wip/merge.py out of the texts that wip/xp.py printed and of this session's own. -/
import Derived.Test.YtffjfdoghofkdaaGreatQFnExactFirstModel6
import Derived.Lib.Strings
import Derived.Lib.Bytealg
import Derived.Test.YtffjfdoghofkdaaGreatRows
import Derived.WalkKit
import Derived.ProofKit
import Derived.OpenShut
import Derived.ShutString
import Derived.ChangeOld
import Derived.Below
import Derived.SizedLaws
import Derived.Lib.SmallJoins
set_option linter.unusedVariables false
set_option linter.unusedSimpArgs false
set_option linter.unusedSectionVars false
set_option maxHeartbeats 8000000
set_option maxRecDepth 100000
namespace Go.Proofs.YtffjfdoghofkdaaGreat.BtFnExactFirstModel
open Go Go.RowKit YtffjfdoghofkdaaGreat.A YtffjfdoghofkdaaGreat.Br YtffjfdoghofkdaaGreatW.PrintWords
def wf101N:Nat→S101→Prop
 | 0,_=>False
 | n+1,x=>((Lit.int .i64 x.f0).wf=true)∧((x.f1:ByteArray).size≤9223372036854775807)∧((x.f2:(List S101)).length≤9223372036854775807∧∀ a ∈ x.f2,wf101N n a)
def wf101 (x:S101):Prop:=∃ n,wf101N n x
theorem br101N:∀ n,BrN Tryz.prog n 101 (Kd.upto F101 3 [101] n) (wf101N n)
 | 0=>BrN.zero _ _ _ _
 | n+1=>by
  have ih:=br101N n
  exact (br_iso (f:=(fun x:S101=>(x.f0,x.f1,x.f2))) (fun y=>⟨y.1,y.2.1,y.2.2⟩) (fun _=>rfl) (br_struct Tryz.underlying101 (show Tryz.prog.cellsOf 101=3 by kernel_rfl) (bf_cons rfl (show Tryz.prog.cellsOf 3=1 by kernel_rfl) (br_int Tryz.underlying3 n) (bf_cons rfl (show Tryz.prog.cellsOf 9=1 by kernel_rfl) (br_string Tryz.underlying9 n) (bf_one rfl (show Tryz.prog.cellsOf 99=1 by kernel_rfl) ((br_slice Tryz.underlying99 (show Tryz.prog.cellsOf 101=(Kd.upto F101 3 [101] n).sz by rw [sz101];kernel_rfl) ih).mono (Nat.le_succ n))) (of_decide_eq_true (by kernel_rfl))) (of_decide_eq_true (by kernel_rfl))))).imp (fun _ h=>h)
theorem br101 (n:Nat):BrN Tryz.prog n 101 k101 wf101:=br_fix br101N n
def wf103 (x:S103):Prop:=((Lit.int .i64 x.f0).wf=true)∧((x.f1:ByteArray).size≤9223372036854775807)∧((x.f2:ByteArray).size≤9223372036854775807)∧(wf101 x.f3)∧((x.f4:(List Int)).length≤9223372036854775807∧∀ a ∈ x.f4,(Lit.int .i64 a).wf=true)∧((Lit.int .i64 x.f5).wf=true)
theorem br103 (n:Nat):BrN Tryz.prog n 103 k103 wf103 :=
 (br_iso (f:=(fun x:S103=>(x.f0,x.f1,x.f2,x.f3,x.f4,x.f5))) (fun y=>⟨y.1,y.2.1,y.2.2.1,y.2.2.2.1,y.2.2.2.2.1,y.2.2.2.2.2⟩) (fun _=>rfl) (br_struct' Tryz.underlying103 (show Tryz.prog.cellsOf 103=8 by kernel_rfl) (fun n=>(bf_cons rfl (show Tryz.prog.cellsOf 3=1 by kernel_rfl) (br_int Tryz.underlying3 n) (bf_cons rfl (show Tryz.prog.cellsOf 9=1 by kernel_rfl) (br_string Tryz.underlying9 n) (bf_cons rfl (show Tryz.prog.cellsOf 9=1 by kernel_rfl) (br_string Tryz.underlying9 n) (bf_cons rfl (show Tryz.prog.cellsOf 101=3 by kernel_rfl) (br101 n) (bf_cons rfl (show Tryz.prog.cellsOf 59=1 by kernel_rfl) (br_slice' Tryz.underlying59 (show Tryz.prog.cellsOf 3=1 by kernel_rfl) (fun n=>(br_int Tryz.underlying3 n)) n) (bf_one rfl (show Tryz.prog.cellsOf 3=1 by kernel_rfl) (br_int Tryz.underlying3 n)) (of_decide_eq_true (by kernel_rfl))) (of_decide_eq_true (by kernel_rfl))) (of_decide_eq_true (by kernel_rfl))) (of_decide_eq_true (by kernel_rfl))) (of_decide_eq_true (by kernel_rfl)))) n)).imp (fun _ h=>h)
end Go.Proofs.YtffjfdoghofkdaaGreat.BtFnExactFirstModel
namespace Go.Proofs.YtffjfdoghofkdaaGreat.Pure
open Go Go.RowKit YtffjfdoghofkdaaGreat.Br YtffjfdoghofkdaaGreatW.PrintWords YtffjfdoghofkdaaGreatW.PrintLast YtffjfdoghofkdaaGreat.A YtffjfdoghofkdaaGreat.Ext YtffjfdoghofkdaaGreat.BtFnExactFirstModel
def FnExactFirstModel.Pure:Prop:=∀ (l0_0:(List S103)) (a1:Int),((l0_0:(List S103)).length≤9223372036854775807∧∀ a ∈ l0_0,wf103 a)→((Lit.int .i64 a1).wf=true)→∃ k,laws_FnExactFirstModel.f k l0_0 a1=some true
end Go.Proofs.YtffjfdoghofkdaaGreat.Pure
namespace Go.Proofs.YtffjfdoghofkdaaGreat.Pl
open Go.RowKit YtffjfdoghofkdaaGreatW.PrintWords
def Evt {α:Type} (g:Nat→Option α) (r:α):Prop:=∃ K,∀ k,K≤k→g k=some r
section
variable {α β : Type}
theorem Evt.const {g:Option α} {r:α} (h:g=some r):Evt (fun _=>g) r:=⟨0,fun _ _=>h⟩
theorem Evt.ret (r:α):Evt (fun _=>some r) r:=Evt.const rfl
theorem Evt.bind {g:Nat→Option α} {f:Nat→α→Option β} {a:α} {r:β} (hg:Evt g a) (hf:Evt (fun k=>f k a) r):Evt (fun k=>(g k).bind (f k)) r:=by
 obtain ⟨K,hK⟩:=hg
 obtain ⟨L,hL⟩:=hf
 exact ⟨max K L,fun k hk=>by show (g k).bind (f k)=some r;rw [hK k (by omega)];exact hL k (by omega)⟩
theorem Evt.bindc {g:Option α} {f:Nat→α→Option β} {a:α} {r:β} (hg:g=some a) (hf:Evt (fun k=>f k a) r):Evt (fun k=>g.bind (f k)) r:=Evt.bind (Evt.const hg) hf
theorem Evt.step {g:Nat→Option α} {r:α} (h:Evt (fun k=>g (k+1)) r):Evt g r:=by
 obtain ⟨K,hK⟩:=h
 exact ⟨K+1,fun k hk=>by
  obtain ⟨m,rfl⟩:∃ m,k=m+1:=⟨k - 1,by omega⟩
  exact hK m (by omega)⟩
theorem Evt.pos {c:Prop} [Decidable c] {t e:Nat→Option α} {r:α} (h:c) (ht:Evt t r):Evt (fun k=>if c then t k else e k) r:=by
 obtain ⟨K,hK⟩:=ht
 exact ⟨K,fun k hk=>(if_pos h).trans (hK k hk)⟩
theorem Evt.neg {c:Prop} [Decidable c] {t e:Nat→Option α} {r:α} (h:¬ c) (ht:Evt e r):Evt (fun k=>if c then t k else e k) r:=by
 obtain ⟨K,hK⟩:=ht
 exact ⟨K,fun k hk=>(if_neg h).trans (hK k hk)⟩
theorem Evt.ite {c:Prop} [Decidable c] {t e:Nat→Option α} {x y:α} (ht:c→Evt t x) (he:¬ c→Evt e y):Evt (fun k=>if c then t k else e k) (if c then x else y):=by
 by_cases h:c
 ·rw [if_pos h];exact Evt.pos h (ht h)
 ·rw [if_neg h];exact Evt.neg h (he h)
theorem Evt.get {g:Nat→Option α} {r:α} (h:Evt g r):∃ k,g k=some r:=by
 obtain ⟨K,hK⟩:=h
 exact ⟨K,hK K (Nat.le_refl _)⟩
theorem Evt.of_eq {g g':Nat→Option α} {r:α} (h:∀ k,g k=g' k) (h':Evt g' r):Evt g r:=by
 obtain ⟨K,hK⟩:=h'
 exact ⟨K,fun k hk=>by rw [h];exact hK k hk⟩
theorem Evt.cast {g:Nat→Option α} {r r':α} (h:Evt g r) (e:r=r'):Evt g r':=e ▸ h
theorem Evt.up (l:Nat→Int→Option α) (n:Nat) (R:Nat→α) (hend:Evt (fun k=>l k (n:Int)) (R n))
  (hstep:∀ i:Nat,i < n→Evt (fun k=>l k ((i+1:Nat):Int)) (R (i+1))→Evt (fun k=>l k (i:Int)) (R i)):Evt (fun k=>l k 0) (R 0):=by
 have h:∀ d i:Nat,i+d=n→Evt (fun k=>l k (i:Int)) (R i):=by
  intro d
  induction d with
  | zero =>
   intro i hi
   obtain rfl:i=n:=by omega
   exact hend
  | succ d ih =>
   intro i hi
   exact hstep i (by omega) (ih (i+1) (by omega))
 exact h n 0 (by omega)
end
theorem w64 {x:Int} (h : -9223372036854775808≤x) (h':x≤9223372036854775807):wrap64 x=x:=by unfold wrap64;omega
theorem w64s {i:Nat} (h:i < 9223372036854775807):wrap64 ((i:Int)+1)=((i+1:Nat):Int):=by
 rw [w64 (by omega) (by omega)];omega
theorem bt0 (s:ByteArray) (i:Int):0≤bt s i:=(bt_range s i).1
theorem bt255 (s:ByteArray) (i:Int):bt s i≤255:=(bt_range s i).2
theorem bt_get (s:ByteArray) (i:Nat) (h:i < (bytesOf s).length):bt s (i:Int)=(bytesOf s)[i]:=by
 rw [← rd_bytesOf]
 simp [rd,h]
theorem bytesOf_inj {s t:ByteArray} (h:bytesOf s=bytesOf t):s=t:=by
 have h1:s.data.toList=t.data.toList:=by
  refine List.map_inj_right (f:=fun b:UInt8=>(b.toNat:Int)) (fun x y hxy=>?_) |>.1 h
  exact UInt8.toNat_inj.1 (Int.ofNat_inj.1 hxy)
 cases s;cases t
 simp only [ByteArray.mk.injEq]
 exact Array.toList_inj.1 h1
theorem toList_eq_iff (s t:ByteArray):s.toList=t.toList ↔ s=t:=by
 rw [Lib.toList_data,Lib.toList_data]
 constructor
 ·intro h
  cases s;cases t
  simp only [ByteArray.mk.injEq]
  exact Array.toList_inj.1 h
 ·rintro rfl;rfl
theorem toList_nil_iff (s:ByteArray):s.toList=([]:List UInt8) ↔ s.size=0:=by
 rw [Lib.toList_data,← data_length,List.length_eq_zero_iff]
theorem mem_bytes (s:ByteArray) {c:Int} (h:c ∈ bytesOf s):0≤c∧c≤255:=by
 unfold bytesOf at h
 obtain ⟨b,_,rfl⟩:=List.mem_map.1 h
 have:=b.toNat_lt
 omega
theorem bytesOf_append (s t:ByteArray):bytesOf (s ++ t)=bytesOf s ++ bytesOf t:=by
 simp [bytesOf,ByteArray.data_append]
theorem bytesOf_extract (s:ByteArray) (a b:Nat):bytesOf (s.extract a b)=((bytesOf s).drop a).take (b - a):=by
 have h:=Lib.extract_toList s a b
 rw [Lib.toList_data] at h
 unfold bytesOf
 rw [h,List.map_take,List.map_drop]
theorem bytesOf_tail (s:ByteArray) (a:Nat):bytesOf (s.extract a s.size)=(bytesOf s).drop a:=by
 rw [bytesOf_extract,List.take_of_length_le]
 rw [List.length_drop,bytesOf_length]
 exact Nat.le_refl _
def ltI (c:Int):Int:=if 97=c then 0 else if 98=c then 1 else if 99=c then 2 else -1
def varI (c:Int):Int:=if 88=c then 0 else if 89=c then 1 else if 90=c then 2 else -1
def isVr (c:Int):Bool:=decide (88≤c∧c≤90)
theorem ix_abc:∀ n:Nat,n < 256→Lib.indexByte [97,98,99] n.toUInt8=ltI (n:Int):=by decide +kernel
theorem ix_XYZ:∀ n:Nat,n < 256→Lib.indexByte [88,89,90] n.toUInt8=varI (n:Int):=by decide +kernel
theorem varI_isVar (c:Int):decide (varI c ≥ 0)=isVr c:=by
 unfold varI isVr
 split
 ·subst_vars;rfl
 ·split
  ·subst_vars;rfl
  ·split
   ·subst_vars;rfl
   ·simp;omega
theorem ltI_nonneg (c:Int):0≤ltI c ↔ (97≤c∧c≤99):=by
 unfold ltI
 split
 ·subst_vars;simp
 ·split
  ·subst_vars;simp
  ·split
   ·subst_vars;simp
   ·simp;omega
theorem ltI_le (c:Int):ltI c≤2:=by
 unfold ltI
 repeat' split
 all_goals omega
theorem ltI_ge (c:Int) : -1≤ltI c:=by
 unfold ltI
 repeat' split
 all_goals omega
theorem bt_abc0:bt (⟨#[97,98,99]⟩:ByteArray) 0=97:=by decide
theorem bt_abc1:bt (⟨#[97,98,99]⟩:ByteArray) 1=98:=by decide
theorem bt_abc2:bt (⟨#[97,98,99]⟩:ByteArray) 2=99:=by decide
theorem bt_XYZ0:bt (⟨#[88,89,90]⟩:ByteArray) 0=88:=by decide
theorem bt_XYZ1:bt (⟨#[88,89,90]⟩:ByteArray) 1=89:=by decide
theorem bt_XYZ2:bt (⟨#[88,89,90]⟩:ByteArray) 2=90:=by decide
theorem w64_a:wrap64 1=1:=by unfold wrap64;omega
theorem w64_b:wrap64 2=2:=by unfold wrap64;omega
theorem w64_c:wrap64 3=3:=by unfold wrap64;omega
theorem w64_1:wrap64 (0+1)=1:=by unfold wrap64;omega
theorem w64_2:wrap64 (1+1)=2:=by unfold wrap64;omega
theorem w64_3:wrap64 (2+1)=3:=by unfold wrap64;omega
theorem indexByte_nonneg (l:List UInt8) (c:UInt8):0≤Lib.indexByte l c ↔ c ∈ l:=by
 induction l with
 | nil=>simp [Lib.indexByte]
 | cons b l ih =>
  unfold Lib.indexByte
  by_cases h:b=c
  ·subst h;simp
  ·have hb:(b == c)=false:=by simpa using h
   rw [hb]
   have hge:=Lib.indexByte_ge l c
   by_cases h2:Lib.indexByte l c = -1
   ·simp only [h2]
    simp
    refine ⟨fun e=>h e.symm,fun hm=>?_⟩
    have:=ih.2 hm
    omega
   ·have h3:(Lib.indexByte l c == -1)=false:=by simpa using h2
    rw [h3]
    simp
    constructor
    ·intro _;exact .inr (ih.1 (by omega))
    ·rintro (e|hm)
     ·exact absurd e.symm h
     ·have:=ih.2 hm;omega
theorem mem_data (s:ByteArray) (n:Nat) (hn:n < 256):n.toUInt8 ∈ s.data.toList ↔ (n:Int) ∈ bytesOf s:=by
 unfold bytesOf
 rw [List.mem_map]
 constructor
 ·intro h
  exact ⟨_,h,by simp [Nat.mod_eq_of_lt hn]⟩
 ·rintro ⟨b,hb,e⟩
  have e2:b.toNat=n:=by omega
  subst e2
  simpa using hb
theorem w64_sub {a:Int} {n:Nat} (ha : -1≤a) (ha':a≤1048576) (hn:n≤9223372036854775807):wrap64 (a - (n:Int))=a - (n:Int):=w64 (by omega) (by omega)
end Go.Proofs.YtffjfdoghofkdaaGreat.Pl
namespace Go.Proofs.YtffjfdoghofkdaaGreat.F
open Go.RowKit YtffjfdoghofkdaaGreatW.PrintWords YtffjfdoghofkdaaGreat.Pl YtffjfdoghofkdaaGreat.A YtffjfdoghofkdaaGreat.Ext
def Evt2 {α:Type} (g:Nat→Nat→Option α) (r:α):Prop:=∃ K,∀ i j,K≤i→K≤j→g i j=some r
theorem Evt2.ret {α:Type} (r:α):Evt2 (fun _ _=>some r) r:=⟨0,fun _ _ _ _=>rfl⟩
theorem Evt2.bind {α β:Type} {g:Nat→Option α} {f:Nat→Nat→α→Option β} {a:α} {r:β} (hg:Evt g a) (hf:Evt2 (fun i j=>f i j a) r):Evt2 (fun i j=>(g i).bind (f i j)) r:=by
 obtain ⟨K,hK⟩:=hg
 obtain ⟨L,hL⟩:=hf
 exact ⟨max K L,fun i j hi hj=>by show (g i).bind (f i j)=some r;rw [hK i (by omega)];exact hL i j (by omega) (by omega)⟩
theorem Evt2.bind2 {α β:Type} {g:Nat→Nat→Option α} {f:Nat→Nat→α→Option β} {a:α} {r:β} (hg:Evt2 g a) (hf:Evt2 (fun i j=>f i j a) r):Evt2 (fun i j=>(g i j).bind (f i j)) r:=by
 obtain ⟨K,hK⟩:=hg
 obtain ⟨L,hL⟩:=hf
 exact ⟨max K L,fun i j hi hj=>by show (g i j).bind (f i j)=some r;rw [hK i j (by omega) (by omega)];exact hL i j (by omega) (by omega)⟩
theorem Evt2.pos {α:Type} {c:Prop} [Decidable c] {t e:Nat→Nat→Option α} {r:α} (h:c) (ht:Evt2 t r):Evt2 (fun i j=>if c then t i j else e i j) r:=by
 obtain ⟨K,hK⟩:=ht
 exact ⟨K,fun i j hi hj=>by show (if c then t i j else e i j)=some r;rw [if_pos h];exact hK i j hi hj⟩
theorem Evt2.neg {α:Type} {c:Prop} [Decidable c] {t e:Nat→Nat→Option α} {r:α} (h:¬ c) (he:Evt2 e r):Evt2 (fun i j=>if c then t i j else e i j) r:=by
 obtain ⟨K,hK⟩:=he
 exact ⟨K,fun i j hi hj=>by show (if c then t i j else e i j)=some r;rw [if_neg h];exact hK i j hi hj⟩
theorem Evt2.step {α:Type} {g:Nat→Nat→Option α} {r:α} (h:Evt2 (fun i j=>g i (j+1)) r):Evt2 g r:=by
 obtain ⟨K,hK⟩:=h
 refine ⟨K+1,fun i j hi hj=>?_⟩
 obtain ⟨j,rfl⟩:∃ m,j=m+1:=⟨j - 1,by omega⟩
 exact hK i j (by omega) (by omega)
theorem Evt2.diag {α:Type} {g:Nat→Nat→Option α} {r:α} (h:Evt2 g r):Evt (fun k=>g k k) r:=by
 obtain ⟨K,hK⟩:=h
 exact ⟨K,fun k hk=>hK k k hk hk⟩
theorem Evt2.cast {α:Type} {g:Nat→Nat→Option α} {r r':α} (h:Evt2 g r) (e:r=r'):Evt2 g r':=e ▸ h
def RxOk:Nat→S101→Prop
 | 0,_=>False
 | n+1,x=>x.f1.size≤9223372036854775807∧x.f2.length≤9223372036854775807∧∀ a ∈ x.f2,RxOk n a
inductive Sm : S65 → Prop
 | mk (a:Int) (b:ByteArray) (l:List S65) (h:l.length≤1048576) (hs:∀ x ∈ l,Sm x):Sm ⟨a,b,l⟩
theorem Sm.len {x:S65} (h:Sm x):x.f2.length≤1048576:=by cases h;assumption
theorem rxL_at (l:List S101) (i:Nat) (h:i < l.length):rd_T101 l (i:Int)=l[i]:=by simp [rd_T101,h]
theorem rxI_at (l:List S65) (i:Nat) (h:i < l.length):rd_T65 l (i:Int)=l[i]:=by simp [rd_T65,h]
theorem rx_eta (y:S65):(⟨y.f0,y.f1,y.f2⟩:S65)=y:=by cases y;rfl
def Cp (x:S101) (y:S65):Prop:=Sm y∧Evt (fun k=>laws_toRegex.f k x.f0 x.f1 x.f2) (y.f0,y.f1,y.f2)
theorem copies (l:List S101) (h:∀ x ∈ l,∃ y,Cp x y):∃ ys:List S65,ys.length=l.length∧∀ (i:Nat) (h:i < l.length) (h':i < ys.length),Cp l[i] ys[i]:=by
 induction l with
 | nil=>exact ⟨[],rfl,fun i h=>absurd h (by simp)⟩
 | cons x l ih =>
  obtain ⟨y,hy⟩:=h x (by simp)
  obtain ⟨ys,h1,h2⟩:=ih (fun z hz=>h z (by simp [hz]))
  refine ⟨y :: ys,by simp [h1],fun i hi hi' => ?_⟩
  cases i with
  | zero=>exact hy
  | succ i=>exact h2 i (by simpa using hi) (by simpa using hi')
theorem toRegex_ev (a:Int) (b:ByteArray) (l:List S101) (hl:l.length≤1048576) (h:∀ x ∈ l,∃ y,Cp x y):∃ y,Cp ⟨a,b,l⟩ y:=by
 obtain ⟨ys,e,hc⟩:=copies l h
 refine ⟨⟨a,b,ys⟩,Sm.mk a b ys (by omega) (fun y hy=>?_),?_⟩
 ·obtain ⟨i,hi,rfl⟩:=List.mem_iff_getElem.1 hy
  exact (hc i (by omega) hi).1
 ·refine Evt.step ?_
  simp only [laws_toRegex.f]
  refine Evt2.diag (g:=fun i j=>laws_toRegexG.f (fun _=>laws_toRegex.f i) j a b l) ?_
  simp only [laws_toRegexG.f,laws_toRegexSG.f]
  refine Evt2.bind2 (a:=ys) (Evt2.pos (by omega) (Evt2.pos (by omega) ?_)) (Evt2.ret _)
  rw [Int.toNat_natCast]
  have hh:∀ d i:Nat,i+d=l.length→Evt2 (fun p q=>laws_toRegexSG.l0 (fun _=>laws_toRegex.f p) q l (ys.take i ++ List.replicate (l.length - i) z65) (i:Int)) ys:=by
   intro d
   induction d with
   | zero =>
    intro i hi
    refine Evt2.step ?_
    simp only [laws_toRegexSG.l0]
    refine Evt2.neg (by omega) ((Evt2.ret _).cast ?_)
    rw [show l.length - i=0 by omega,List.take_of_length_le (by omega)]
    simp
   | succ d ih =>
    intro i hi
    have hi':i < l.length:=by omega
    refine Evt2.step ?_
    simp only [laws_toRegexSG.l0]
    rw [rxL_at l i hi']
    refine Evt2.pos (by omega) (Evt2.pos (by omega) (Evt2.bind (hc i hi' (by omega)).2 (Evt2.pos (by simp;omega) ?_)))
    rw [Int.toNat_natCast,w64s (by omega)]
    have hx:(ys.take i).length=i:=by rw [List.length_take];omega
    have e2:(ys.take i ++ List.replicate (l.length - i) z65).set i (ys[i]'(by omega))=ys.take (i+1) ++ List.replicate (l.length - (i+1)) z65:=by
     rw [List.set_append_right _ _ (by omega),hx,Nat.sub_self,show l.length - i=(l.length - (i+1))+1 by omega,List.replicate_succ,List.set_cons_zero,List.take_succ_eq_append_getElem (by omega),List.append_assoc]
     rfl
    simp only [rx_eta,e2]
    exact ih (i+1) (by omega)
  simpa using hh l.length 0 (by omega)
theorem szRegex_ev:∀ n (x:S101),RxOk n x→∀ v:Int,0≤v→v≤1048576→∃ t,Evt (fun k=>laws_szRegex.f k x.f0 x.f1 x.f2 v) t∧(t = -1∨(0≤t∧t≤v∧∃ y,Cp x y)):=by
 intro n
 induction n with
 | zero=>intro x h;exact h.elim
 | succ n ih =>
  rintro ⟨a,b,l⟩ ⟨h1,h2,h3⟩ v hv hv'
  simp only at h1 h2 h3
  have hs:∃ t,Evt2 (fun i j=>laws_szRegexG.f (fun _=>laws_szRegex.f i) j a b l v) t∧(t = -1∨(0≤t∧t≤v∧∃ y,Cp ⟨a,b,l⟩ y)):=by
   simp only [laws_szRegexG.f,laws_szRegexSG.f]
   rw [w64_sub (by omega) (by omega) h1]
   by_cases c1:v - b.size < 0
   ·exact ⟨-1,Evt2.pos c1 (Evt2.ret _),.inl rfl⟩
   rw [w64_sub (by omega) (by omega) h2]
   by_cases c2:v - b.size - l.length < 0
   ·exact ⟨-1,Evt2.neg c1 (Evt2.bind2 (Evt2.pos c2 (Evt2.ret _)) (Evt2.pos (by decide) (Evt2.ret _))),.inl rfl⟩
   have hh:∀ d i:Nat,i+d=l.length→∀ u:Int,0≤u→u≤1048576→∃ t,Evt2 (fun p q=>laws_szRegexSG.l0 (fun _=>laws_szRegex.f p) q l u (i:Int)) t∧(t = -1∨(0≤t∧t≤u∧∀ x ∈ l.drop i,∃ y,Cp x y)):=by
    intro d
    induction d with
    | zero =>
     intro i hi u hu hu'
     refine ⟨u,Evt2.step ?_,.inr ⟨hu,Int.le_refl _,?_⟩⟩
     ·simp only [laws_szRegexSG.l0]
      exact Evt2.neg (by omega) (Evt2.ret _)
     ·rw [List.drop_of_length_le (by omega)]
      intro x hx
      cases hx
    | succ d ihd =>
     intro i hi u hu hu'
     have hi':i < l.length:=by omega
     obtain ⟨t,ht,hc⟩:=ih l[i] (h3 _ (List.getElem_mem hi')) u hu hu'
     by_cases c3:t < 0
     ·refine ⟨-1,Evt2.step ?_,.inl rfl⟩
      simp only [laws_szRegexSG.l0]
      rw [rxL_at l i hi']
      exact Evt2.pos (by omega) (Evt2.pos (by omega) (Evt2.bind ht (Evt2.pos c3 (Evt2.ret _))))
     ·have hc':=hc.resolve_left (by omega)
      obtain ⟨t',ht',hc2⟩:=ihd (i+1) (by omega) t (by omega) (by omega)
      refine ⟨t',Evt2.step ?_,?_⟩
      ·simp only [laws_szRegexSG.l0]
       rw [rxL_at l i hi',w64s (by omega)]
       exact Evt2.pos (by omega) (Evt2.pos (by omega) (Evt2.bind ht (Evt2.neg c3 ht')))
      ·rcases hc2 with h4|⟨h4,h5,h6⟩
       ·exact .inl h4
       ·refine .inr ⟨h4,by omega,?_⟩
        rw [List.drop_eq_getElem_cons hi']
        intro x hx
        rcases List.mem_cons.1 hx with rfl|hx
        ·exact hc'.2.2
        ·exact h6 x hx
   obtain ⟨t,ht,hc⟩:=hh l.length 0 (by omega) (v - b.size - l.length) (by omega) (by omega)
   by_cases c4:t < 0
   ·exact ⟨-1,Evt2.neg c1 (Evt2.bind2 (Evt2.neg c2 ht) (Evt2.pos c4 (Evt2.ret _))),.inl rfl⟩
   ·have hc':=hc.resolve_left (by omega)
    refine ⟨t,Evt2.neg c1 (Evt2.bind2 (Evt2.neg c2 ht) (Evt2.neg c4 (Evt2.ret _))),.inr ⟨hc'.1,by omega,toRegex_ev a b l (by omega) (by simpa using hc'.2.2)⟩⟩
  obtain ⟨t,ht,hc⟩:=hs
  refine ⟨t,Evt.step ?_,hc⟩
  simp only [laws_szRegex.f]
  exact Evt2.diag ht
theorem spec_LetterIndex_ev (c:Int):Evt (fun k=>spec_LetterIndex.f k c) (ltI c):=by
 refine ⟨4,fun k hk=>?_⟩
 obtain ⟨m,rfl⟩:∃ m,k=m+4:=⟨k - 4,by omega⟩
 unfold ltI
 by_cases h0:(97:Int)=c
 ·simp [spec_LetterIndex.f,spec_LetterIndex.l0,w64_a,w64_b,w64_c,bt_abc0,bt_abc1,bt_abc2,h0]
 ·by_cases h1:(98:Int)=c
  ·simp [spec_LetterIndex.f,spec_LetterIndex.l0,w64_a,w64_b,w64_c,bt_abc0,bt_abc1,bt_abc2,h0,h1]
  ·by_cases h2:(99:Int)=c
   ·simp [spec_LetterIndex.f,spec_LetterIndex.l0,w64_a,w64_b,w64_c,bt_abc0,bt_abc1,bt_abc2,h0,h1,h2]
   ·simp [spec_LetterIndex.f,spec_LetterIndex.l0,w64_a,w64_b,w64_c,bt_abc0,bt_abc1,bt_abc2,h0,h1,h2]
theorem impl_LetterIndex_eq {c:Int} (h0:0≤c) (h1:c≤255):impl_LetterIndex.f c=some (ltI c):=by
 obtain ⟨n,rfl⟩:=Int.eq_ofNat_of_zero_le h0
 simp only [impl_LetterIndex.f,strings_IndexByte.f,Option.bind_some]
 rw [Int.toNat_natCast]
 exact congrArg some (ix_abc n (by omega))
def allL (l:List Int):Bool:=l.all fun c=>decide (0≤ltI c)
theorem impl_isLetters_ev (s:ByteArray) (hs:s.size≤9223372036854775807):Evt (fun k=>impl_isLetters.f k s) (allL (bytesOf s)):=by
 have h:=Evt.up (fun k i=>impl_isLetters.l0 k s i) s.size (fun i=>allL ((bytesOf s).drop i)) ?_ ?_
 ·simpa [impl_isLetters.f] using h
 ·refine Evt.step ?_
  simp only [impl_isLetters.l0]
  rw [List.drop_of_length_le za35]
  exact Evt.neg (by omega) (Evt.ret _)
 ·intro i hi h
  refine Evt.step ?_
  simp only [impl_isLetters.l0]
  refine Evt.pos (by omega) (Evt.pos (by omega) (Evt.bindc (impl_LetterIndex_eq (bt0 _ _) (bt255 _ _)) ?_))
  have hl:i < (bytesOf s).length:=by rw [bytesOf_length];exact hi
  rw [List.drop_eq_getElem_cons hl,← bt_get s i hl]
  by_cases hc:ltI (bt s i) < 0
  ·exact Evt.pos hc (Evt.const (by simp [allL,show ¬ (0≤ltI (bt s i)) by omega]))
  ·rw [w64s (by omega)]
   exact Evt.neg hc (h.cast (by simp [allL,show 0≤ltI (bt s i) by omega]))
def isW (s:ByteArray):Bool:=allL (bytesOf s) && decide (s.size≤30)
theorem impl_IsWord_ev (s:ByteArray) (hs:s.size≤9223372036854775807):Evt (fun k=>impl_IsWord.f k s) (isW s):=by
 unfold isW
 simp only [impl_IsWord.f]
 by_cases h:s.size≤30
 ·exact Evt.pos (by omega) (Evt.bind (impl_isLetters_ev s hs) (Evt.const (by simp [h])))
 ·exact Evt.neg (by omega) (Evt.const (by simp [h]))
theorem spec_IsWord_ev (s:ByteArray) (hs:s.size≤9223372036854775807):Evt (fun k=>spec_IsWord.f k s) (isW s):=by
 have h:=Evt.up (fun k i=>spec_IsWord.l0 k s i) s.size (fun i=>allL ((bytesOf s).drop i) && decide (s.size≤30)) ?_ ?_
 ·simpa [spec_IsWord.f,isW] using h
 ·refine Evt.step ?_
  simp only [spec_IsWord.l0]
  rw [List.drop_of_length_le za35]
  refine Evt.neg (by omega) (Evt.const ?_)
  have e:((s.size:Int)≤30)=(s.size≤30):=by apply propext;omega
  simp [allL,e]
 ·intro i hi h
  refine Evt.step ?_
  simp only [spec_IsWord.l0]
  refine Evt.pos (by omega) (Evt.pos (by omega) (Evt.bind (spec_LetterIndex_ev _) ?_))
  have hl:i < (bytesOf s).length:=by rw [bytesOf_length];exact hi
  rw [List.drop_eq_getElem_cons hl,← bt_get s i hl]
  by_cases hc:ltI (bt s i) < 0
  ·exact Evt.pos hc (Evt.const (by simp [allL,show ¬ (0≤ltI (bt s i)) by omega]))
  ·rw [w64s (by omega)]
   exact Evt.neg hc (h.cast (by simp [allL,show 0≤ltI (bt s i) by omega]))
def arN (a:Int):Nat:=if a=5∨a=6∨a=7 then 2 else if a=8∨a=9 then 1 else 0
theorem arN_le (a:Int):arN a≤2:=by
 unfold arN
 split
 ·omega
 ·split <;> omega
def kOk (a:Int) (b:ByteArray) (n:Nat):Bool :=
 if a=3 then decide (b.size=1) && isW b && decide (n=0) else decide (1≤a∧a≤9) && decide (b.size=0) && decide (n=arN a)
theorem kOk_len {a:Int} {b:ByteArray} {n:Nat} (h:kOk a b n=true):n=arN a:=by
 unfold kOk at h
 split at h
 ·next e=>subst e;simp at h;simp [h.2,arN]
 ·simp at h;exact h.2
def nds:Nat→S65→Nat
 | 0,_=>17
 | n+1,x=>if kOk x.f0 x.f1 x.f2.length=true then min (1+(x.f2.map (nds n)).sum) 17 else 17
theorem nds_le (n:Nat) (x:S65):nds n x≤17:=by
 cases n with
 | zero=>exact Nat.le_refl _
 | succ n=>unfold nds;split <;> omega
def Ht:Nat→S65→Prop
 | 0,_=>False
 | n+1,x=>x.f2.length≤1048576∧∀ a ∈ x.f2,Ht n a
theorem Ht_mono:∀ n (x:S65),Ht n x→Ht (n+1) x:=by
 intro n
 induction n with
 | zero=>intro x h;exact h.elim
 | succ n ih=>intro x h;exact ⟨h.1,fun a ha=>ih a (h.2 a ha)⟩
theorem Ht_le {n m:Nat} (h:n≤m) (x:S65) (hx:Ht n x):Ht m x:=by
 induction h with
 | refl=>exact hx
 | step _ ih=>exact Ht_mono _ _ ih
theorem Sm.ht {x:S65} (h:Sm x):∃ n,Ht n x:=by
 induction h with
 | mk a b l hl hs ih =>
  have h3:∃ n,∀ a ∈ l,Ht n a:=by
   clear hl hs
   induction l with
   | nil=>exact ⟨0,fun a ha=>by cases ha⟩
   | cons x l ihl =>
    obtain ⟨n,hn⟩:=ihl (fun a ha=>ih a (List.mem_cons_of_mem _ ha))
    obtain ⟨m,hm⟩:=ih x (List.mem_cons_self ..)
    refine ⟨max n m,fun a ha=>?_⟩
    rcases List.mem_cons.1 ha with rfl|ha
    ·exact Ht_le (by omega) _ hm
    ·exact Ht_le (by omega) _ (hn a ha)
  obtain ⟨n,hn⟩:=h3
  exact ⟨n+1,hl,hn⟩
def siz:Nat→S65→Nat
 | 0,_=>1
 | n+1,x=>1+(x.f2.map (siz n)).sum
def dep:Nat→S65→Nat
 | 0,_=>1
 | n+1,x=>(x.f2.map (dep n)).foldr max 0+1
def alls:Nat→S65→Bool
 | 0,_=>true
 | n+1,x=>(x.f2.all (alls n)) && kOk x.f0 x.f1 x.f2.length
theorem siz_pos (n:Nat) (x:S65):1≤siz n x:=by cases n <;> simp [siz]
theorem dep_pos (n:Nat) (x:S65):1≤dep n x:=by cases n <;> simp [dep]
theorem dep_le_siz (n:Nat):∀ x:S65,dep n x≤siz n x:=by
 induction n with
 | zero=>intro x;simp [dep,siz]
 | succ n ih =>
  intro x
  simp only [dep,siz]
  generalize x.f2=l
  induction l with
  | nil=>simp
  | cons y l ihl=>simp only [List.map_cons,List.foldr_cons,List.sum_cons];have:=ih y;omega
theorem nds_eq (n:Nat):∀ (x:S65) (e:Nat),Ht n x→nds e x=if alls n x=true∧dep n x≤e∧siz n x≤16 then siz n x else 17:=by
 induction n with
 | zero=>intro x e h;exact h.elim
 | succ n ih =>
  intro x e h
  cases e with
  | zero =>
   have:=dep_pos (n+1) x
   rw [if_neg (by omega)]
   rfl
  | succ e =>
   unfold nds
   by_cases hk:kOk x.f0 x.f1 x.f2.length=true
   ·rw [if_pos hk]
    have hl:=kOk_len hk
    have h2:=arN_le x.f0
    obtain ⟨_,hm⟩:=h
    simp only [alls,dep,siz,hk,Bool.and_true]
    generalize x.f2=l at *
    match l with
    | []=>simp
    | [p] =>
     have ip:=ih p e (hm p (by simp))
     have hp:=siz_pos n p
     have hq:=dep_pos n p
     simp only [List.map_cons,List.map_nil,List.sum_cons,List.sum_nil,List.foldr_cons,List.foldr_nil,List.all_cons,List.all_nil,Bool.and_true,ip]
     by_cases c1:alls n p=true <;> by_cases c2:dep n p≤e <;> by_cases c3:siz n p≤16 <;> simp only [c1,c2,c3,true_and,false_and,and_true,and_false,if_true,if_false,Bool.false_eq_true] <;> first|omega|(split <;> omega)
    | [p,q] =>
     have ip:=ih p e (hm p (by simp))
     have iq:=ih q e (hm q (by simp))
     have hp:=siz_pos n p
     have hq:=siz_pos n q
     have hp':=dep_pos n p
     have hq':=dep_pos n q
     simp only [List.map_cons,List.map_nil,List.sum_cons,List.sum_nil,List.foldr_cons,List.foldr_nil,List.all_cons,List.all_nil,Bool.and_true,ip,iq,Bool.and_eq_true]
     by_cases c1:alls n p=true <;> by_cases c2:dep n p≤e <;> by_cases c3:siz n p≤16 <;> by_cases c1':alls n q=true <;> by_cases c2':dep n q≤e <;> by_cases c3':siz n q≤16 <;> simp only [c1,c2,c3,c1',c2',c3',true_and,false_and,and_true,and_false,if_true,if_false,Bool.false_eq_true] <;> first|omega|(split <;> omega)
    | p :: q :: r :: l=>simp at hl;omega
   ·rw [if_neg hk,if_neg]
    simp [alls,hk]
theorem impl_isVariable_eq {c:Int} (h0:0≤c) (h1:c≤255):impl_isVariable.f c=some (isVr c):=by
 obtain ⟨n,rfl⟩:=Int.eq_ofNat_of_zero_le h0
 simp only [impl_isVariable.f,strings_IndexByte.f,Option.bind_some]
 rw [Int.toNat_natCast,← varI_isVar,← ix_XYZ n (by omega)]
theorem spec_l8Var_eq (c:Int):spec_l8Var.f c=some (isVr c):=by
 unfold spec_l8Var.f isVr
 by_cases h:c ≥ 88
 ·rw [if_pos h];simp [show 88≤c from h]
 ·rw [if_neg h];simp [show ¬ 88≤c from h]
def isT (c:Int):Bool:=decide (0≤ltI c) || isVr c
def isTm (s:ByteArray):Bool:=(bytesOf s).all isT && decide (s.size≤12)
theorem spec_IsTerm_ev (s:ByteArray) (hs:s.size≤9223372036854775807):Evt (fun k=>spec_IsTerm.f k s) (isTm s):=by
 have h:=Evt.up (fun k i=>spec_IsTerm.l0 k s i) s.size (fun i=>((bytesOf s).drop i).all isT && decide (s.size≤12)) ?_ ?_
 ·simpa [spec_IsTerm.f,isTm] using h
 ·refine Evt.step ?_
  simp only [spec_IsTerm.l0]
  rw [List.drop_of_length_le za35]
  refine Evt.neg (by omega) (Evt.const ?_)
  have e:((s.size:Int)≤12)=(s.size≤12):=by apply propext;omega
  simp [e]
 ·intro i hi h
  refine Evt.step ?_
  simp only [spec_IsTerm.l0]
  refine Evt.pos (by omega) (Evt.pos (by omega) (Evt.bind (spec_LetterIndex_ev _) ?_))
  have hl:i < (bytesOf s).length:=by rw [bytesOf_length];exact hi
  rw [List.drop_eq_getElem_cons hl,← bt_get s i hl,w64s (by omega)]
  by_cases hc:ltI (bt s i) < 0
  ·refine Evt.pos hc (Evt.bindc (spec_l8Var_eq _) ?_)
   by_cases hv:isVr (bt s i)=true
   ·exact Evt.pos hv (h.cast (by simp [isT,hv]))
   ·exact Evt.neg hv (Evt.const (by simp [isT,hv,show ¬ (0≤ltI (bt s i)) by omega]))
  ·exact Evt.neg hc (h.cast (by simp [isT,show 0≤ltI (bt s i) by omega]))
theorem impl_IsTerm_ev (s:ByteArray):Evt (fun k=>impl_IsTerm.f k s) (isTm s):=by
 simp only [impl_IsTerm.f]
 by_cases h12:(s.size:Int) > 12
 ·exact Evt.pos h12 (Evt.const (by simp [isTm,show ¬ s.size≤12 by omega]))
 refine Evt.neg h12 ?_
 have h:=Evt.up (fun k i=>impl_IsTerm.l0 k s i) s.size (fun i=>((bytesOf s).drop i).all isT) ?_ ?_
 ·exact h.cast (by simp [isTm,show s.size≤12 by omega])
 ·refine Evt.step ?_
  simp only [impl_IsTerm.l0]
  rw [List.drop_of_length_le za35]
  exact Evt.neg (by omega) (Evt.ret _)
 ·intro i hi h
  refine Evt.step ?_
  simp only [impl_IsTerm.l0]
  refine Evt.pos (by omega) (Evt.pos (by omega) (Evt.bindc (impl_LetterIndex_eq (bt0 _ _) (bt255 _ _)) ?_))
  have hl:i < (bytesOf s).length:=by rw [bytesOf_length];exact hi
  rw [List.drop_eq_getElem_cons hl,← bt_get s i hl,w64s (by omega)]
  by_cases hc:ltI (bt s i) < 0
  ·refine Evt.pos hc (Evt.bindc (impl_isVariable_eq (bt0 _ _) (bt255 _ _)) ?_)
   by_cases hv:isVr (bt s i)=true
   ·exact Evt.pos hv (h.cast (by simp [isT,hv]))
   ·exact Evt.neg hv (Evt.const (by simp [isT,hv,show ¬ (0≤ltI (bt s i)) by omega]))
  ·exact Evt.neg hc (h.cast (by simp [isT,show 0≤ltI (bt s i) by omega]))
def cntB (l:List Int) (c:Int):Nat:=l.count c
theorem spec_CountByte_ev (s:ByteArray) (c:Int) (hs:s.size≤9223372036854775807):Evt (fun k=>spec_CountByte.f k s c) ((cntB (bytesOf s) c:Nat):Int):=by
 have h:∀ d i n:Nat,i+d=s.size→n≤i→Evt (fun k=>spec_CountByte.l0 k s c (n:Int) (i:Int)) (((n+cntB ((bytesOf s).drop i) c:Nat)):Int):=by
  intro d
  induction d with
  | zero =>
   intro i n hi hn
   refine Evt.step ?_
   simp only [spec_CountByte.l0]
   rw [List.drop_of_length_le za35]
   exact Evt.neg (by omega) (Evt.const (by simp [cntB]))
  | succ d ih =>
   intro i n hi hn
   refine Evt.step ?_
   simp only [spec_CountByte.l0]
   have hl:i < (bytesOf s).length:=by rw [bytesOf_length];omega
   rw [List.drop_eq_getElem_cons hl,← bt_get s i hl,w64s (i:=i) (by omega),w64s (i:=n) (by omega)]
   refine Evt.pos (by omega) (Evt.pos (by omega) ?_)
   by_cases hc:bt s i=c
   ·exact Evt.pos hc ((ih (i+1) (n+1) (by omega) (by omega)).cast (by simp [cntB,hc];omega))
   ·exact Evt.neg hc ((ih (i+1) n (by omega) (by omega)).cast (by simp [cntB,hc]))
 have:=h s.size 0 0 (by omega) (by omega)
 simpa [spec_CountByte.f] using this
theorem cntB_pos (l:List Int) (c:Int):((cntB l c:Nat):Int) > 0 ↔ c ∈ l:=by
 unfold cntB
 rw [show (((l.count c:Nat):Int) > 0)=(0 < l.count c) by apply propext;omega]
 exact List.count_pos_iff
def vr (p:Int→Bool):Nat→Int→ByteArray→ByteArray
 | 0,_,acc=>acc
 | n+1,i,acc=>vr p n (i+1) (if p (bt (⟨#[88,89,90]⟩:ByteArray) i)=true then acc ++ ((⟨#[88,89,90]⟩:ByteArray).extract (i:Int).toNat ((i+1):Int).toNat) else acc)
def varsB (s:ByteArray):ByteArray:=vr (fun c=>decide (c ∈ bytesOf s)) 3 0 (⟨#[]⟩:ByteArray)
theorem ext_size (i:Int) (h0:0≤i) (h:i < 3):((⟨#[88,89,90]⟩:ByteArray).extract (i:Int).toNat ((i+1):Int).toNat).size=1:=by
 have:i=0∨i=1∨i=2:=by omega
 rcases this with rfl|rfl|rfl <;> rfl
theorem spec_VarsOf_ev (s:ByteArray) (hs:s.size≤9223372036854775807):Evt (fun k=>spec_VarsOf.f k s) (varsB s):=by
 have h:∀ (n:Nat) (i:Int) (acc:ByteArray),0≤i→i+n=3→acc.size+n≤3→Evt (fun k=>spec_VarsOf.l0 k s acc i) (vr (fun c=>decide (c ∈ bytesOf s)) n i acc):=by
  intro n
  induction n with
  | zero =>
   intro i acc h0 hi ha
   refine Evt.step ?_
   simp only [spec_VarsOf.l0]
   exact Evt.neg (by omega) (Evt.ret _)
  | succ n ih =>
   intro i acc h0 hi ha
   have hx:=ext_size i h0 (by omega)
   have hw:wrap64 (i+1)=i+1:=w64 (by omega) (by omega)
   refine Evt.step ?_
   simp only [spec_VarsOf.l0,hw,hx]
   refine Evt.pos (by omega) (Evt.pos (by omega) (Evt.bind (spec_CountByte_ev s _ hs) ?_))
   unfold vr
   by_cases hc:bt (⟨#[88,89,90]⟩:ByteArray) i ∈ bytesOf s
   ·refine Evt.pos ((cntB_pos _ _).2 hc) (Evt.pos (by omega) (Evt.pos (by omega) (Evt.pos (by omega) ?_)))
    exact (ih (i+1) _ (by omega) (by omega) (by rw [ByteArray.size_append,hx];omega)).cast (by simp [hc])
   ·exact Evt.neg (fun h=>hc ((cntB_pos _ _).1 h)) ((ih (i+1) acc (by omega) (by omega) (by omega)).cast (by simp [hc]))
 simpa [spec_VarsOf.f,varsB] using h 3 0 (⟨#[]⟩:ByteArray) (by omega) (by omega) (by decide)
theorem ib_nonneg (s:ByteArray) {c:Int} (h0:0≤c) (h1:c≤255):Lib.indexByte s.data.toList c.toNat.toUInt8 ≥ 0 ↔ c ∈ bytesOf s:=by
 obtain ⟨n,rfl⟩:=Int.eq_ofNat_of_zero_le h0
 rw [Int.toNat_natCast,ge_iff_le,indexByte_nonneg,mem_data s n (by omega)]
theorem impl_VarsOf_ev (s:ByteArray):Evt (fun k=>impl_VarsOf.f k s) (varsB s):=by
 have h:∀ (n:Nat) (i:Int) (acc:ByteArray),0≤i→i+n=3→acc.size+n≤3→Evt (fun k=>impl_VarsOf.l0 k s acc i) (vr (fun c=>decide (c ∈ bytesOf s)) n i acc):=by
  intro n
  induction n with
  | zero =>
   intro i acc h0 hi ha
   refine Evt.step ?_
   simp only [impl_VarsOf.l0]
   exact Evt.neg (by omega) (Evt.ret _)
  | succ n ih =>
   intro i acc h0 hi ha
   have hx:=ext_size i h0 (by omega)
   have hw:wrap64 (i+1)=i+1:=w64 (by omega) (by omega)
   refine Evt.step ?_
   simp only [impl_VarsOf.l0,hw,hx]
   refine Evt.pos (by omega) (Evt.pos (by omega) (Evt.bindc rfl ?_))
   unfold vr
   by_cases hc:bt (⟨#[88,89,90]⟩:ByteArray) i ∈ bytesOf s
   ·refine Evt.pos ((ib_nonneg s (bt0 _ _) (bt255 _ _)).2 hc) (Evt.pos (by omega) (Evt.pos (by omega) (Evt.pos (by omega) ?_)))
    exact (ih (i+1) _ (by omega) (by omega) (by rw [ByteArray.size_append,hx];omega)).cast (by simp [hc])
   ·exact Evt.neg (fun h=>hc ((ib_nonneg s (bt0 _ _) (bt255 _ _)).1 h)) ((ih (i+1) acc (by omega) (by omega) (by omega)).cast (by simp [hc]))
 simpa [impl_VarsOf.f,varsB] using h 3 0 (⟨#[]⟩:ByteArray) (by omega) (by omega) (by decide)
theorem impl_argsOf_ev (a:Int):Evt (fun k=>impl_argsOf.f k a) (if 1≤a∧a≤9 then (arN a:Int) else -1):=by
 refine ⟨3,fun k hk=>?_⟩
 obtain ⟨m,rfl⟩:∃ m,k=m+3:=⟨k - 3,by omega⟩
 have h:a=1∨a=2∨a=3∨a=4∨a=5∨a=6∨a=7∨a=8∨a=9∨¬ (1≤a∧a≤9):=by omega
 rcases h with rfl|rfl|rfl|rfl|rfl|rfl|rfl|rfl|rfl|h
 all_goals first
  | simp [impl_argsOf.f,impl_argsOf.j0,impl_argsOf.j1,arN,-Int.reduceNeg];done
  | skip
 rw [if_neg h]
 have e:∀ c:Int,1≤c→c≤9→¬ a=c:=fun c h1 h2 h3=>h (by omega)
 have eb:∀ c:Int,1≤c→c≤9→(a == c)=false:=fun c h1 h2=>by simpa using e c h1 h2
 simp [impl_argsOf.f,impl_argsOf.j0,impl_argsOf.j1,e 1,e 2,e 3,e 4,e 5,e 6,e 7,e 8,e 9,eb 4,eb 9]
theorem impl_nodesOf_j0t (v a:Int) (b:ByteArray) (l:List S65):Evt (fun k=>impl_nodesOf.j0 k v true a b l) 17:=by
 refine Evt.step ?_
 simp only [impl_nodesOf.j0]
 exact Evt.pos trivial (Evt.ret _)
theorem impl_nodesOf_l0 (n:Nat) (hn:n≤6) (l:List S65) (hl:l.length≤2) (ih:∀ x ∈ l,Evt (fun k=>impl_nodesOf.f k x.f0 x.f1 x.f2 (n:Int)) ((nds n x:Nat):Int)) :
  ∀ d i acc:Nat,i+d=l.length→acc≤1+17 * i→Evt (fun k=>impl_nodesOf.l0 k ((n+1:Nat):Int) (acc:Int) l (l.length:Int) (i:Int)) ((min (acc+((l.drop i).map (nds n)).sum) 17:Nat):Int):=by
 intro d
 induction d with
 | zero =>
  intro i acc hi ha
  refine Evt.step ?_
  simp only [impl_nodesOf.l0]
  refine Evt.neg (by omega) ((Evt.ret _).cast ?_)
  rw [List.drop_of_length_le (by omega)]
  simp only [mn,List.map_nil,List.sum_nil,Nat.add_zero]
  split <;> omega
 | succ d ihd =>
  intro i acc hi ha
  have hi':i < l.length:=by omega
  have hx:=nds_le n l[i]
  refine Evt.step ?_
  simp only [impl_nodesOf.l0]
  rw [rxI_at l i hi',w64s (by omega),w64 (x:=((n+1:Nat):Int) - 1) (by omega) (by omega),show ((n+1:Nat):Int) - 1=(n:Int) by omega]
  refine Evt.pos (by omega) (Evt.pos (by omega) (Evt.pos (by omega) (Evt.bind (ih _ (List.getElem_mem hi')) ?_)))
  rw [w64 (by omega) (by omega),show (acc:Int)+((nds n l[i]:Nat):Int)=((acc+nds n l[i]:Nat):Int) by omega]
  refine (ihd (i+1) (acc+nds n l[i]) (by omega) (by omega)).cast ?_
  rw [List.drop_eq_getElem_cons hi',List.map_cons,List.sum_cons,Nat.add_assoc]
theorem impl_nodesOf_ev (n:Nat):n≤6→∀ x:S65,Evt (fun k=>impl_nodesOf.f k x.f0 x.f1 x.f2 (n:Int)) ((nds n x:Nat):Int):=by
 induction n with
 | zero =>
  intro _ x
  refine Evt.step ?_
  simp only [impl_nodesOf.f]
  exact Evt.pos (by omega) ((impl_nodesOf_j0t _ _ _ _).cast (by simp [nds]))
 | succ n ih =>
  intro hn x
  refine Evt.step ?_
  simp only [impl_nodesOf.f]
  refine Evt.neg (by omega) (Evt.bind (impl_argsOf_ev _) ?_)
  unfold nds
  by_cases hlen:(x.f2.length:Int)=(if 1≤x.f0∧x.f0≤9 then (arN x.f0:Int) else -1)
  ·have e:((x.f2.length:Int) != (if 1≤x.f0∧x.f0≤9 then (arN x.f0:Int) else -1))=false:=by simp [hlen]
   rw [e]
   have hr:1≤x.f0∧x.f0≤9:=by
    by_cases hr:1≤x.f0∧x.f0≤9
    ·exact hr
    ·rw [if_neg hr] at hlen;omega
   rw [if_pos hr] at hlen
   have ha:=arN_le x.f0
   have hj1:Evt (fun k=>impl_nodesOf.j1 k ((n+1:Nat):Int) x.f0 x.f1 x.f2) ((min (1+(x.f2.map (nds n)).sum) 17:Nat):Int):=by
    refine Evt.step ?_
    simp only [impl_nodesOf.j1]
    have:=impl_nodesOf_l0 n (by omega) x.f2 (by omega) (fun y _=>ih (by omega) y) x.f2.length 0 1 (by omega) (by omega)
    simpa using this
   refine Evt.step ?_
   simp only [impl_nodesOf.j0]
   refine Evt.neg (by decide) ?_
   by_cases h3:x.f0=3
   ·refine Evt.pos h3 ?_
    have h0:x.f2.length=0:=by rw [h3] at hlen;simp [arN] at hlen;simp [hlen]
    by_cases h1:x.f1.size=1
    ·refine Evt.pos (by omega) (Evt.bind (impl_IsWord_ev _ (by omega)) ?_)
     cases hw:isW x.f1 with
     | true=>exact Evt.pos rfl (hj1.cast (by simp [kOk,h3,h1,hw,h0]))
     | false=>exact Evt.neg (by decide) ((Evt.ret _).cast (by simp [kOk,h3,h1,hw]))
    ·exact Evt.neg (by omega) ((Evt.ret _).cast (by simp [kOk,h3,h1]))
   ·refine Evt.neg h3 ?_
    by_cases h1:x.f1.size=0
    ·have h4:x.f2.length=arN x.f0:=by omega
     exact Evt.pos ((toList_nil_iff _).2 h1) (hj1.cast (by simp [kOk,h3,h1,hr,h4]))
    ·exact Evt.neg (fun h=>h1 ((toList_nil_iff _).1 h)) ((Evt.ret _).cast (by simp [kOk,h3,h1]))
  ·have e:((x.f2.length:Int) != (if 1≤x.f0∧x.f0≤9 then (arN x.f0:Int) else -1))=true:=bne_iff_ne.mpr hlen
   rw [e]
   refine (impl_nodesOf_j0t _ _ _ _).cast ?_
   rw [if_neg]
   ·rfl
   ·intro hk
    have:=kOk_len hk
    refine hlen ?_
    have hr:1≤x.f0∧x.f0≤9:=by
     unfold kOk at hk
     split at hk
     ·omega
     ·simp at hk;exact hk.1.1
    rw [if_pos hr];omega
theorem impl_IsValidRegex_ev (x:S65):Evt (fun k=>impl_IsValidRegex.f k x.f0 x.f1 x.f2) (decide (nds 6 x≤16)):=by
 simp only [impl_IsValidRegex.f]
 refine Evt.bind (impl_nodesOf_ev 6 (Nat.le_refl _) x) ((Evt.ret _).cast ?_)
 have e:(((nds 6 x:Nat):Int)≤16)=(nds 6 x≤16):=by apply propext;omega
 simp [e]
theorem spec_l3Left_ev (n:Nat):∀ x:S65,Ht n x→∀ v:Int,0≤v→v≤16→∃ r,Evt (fun k=>spec_l3Left.f k x.f0 x.f1 x.f2 v) r∧r≤16∧(if (siz n x:Int)≤v then r=v - siz n x else r < 0):=by
 induction n with
 | zero=>intro x h;exact h.elim
 | succ n ih =>
  rintro ⟨a,b,l⟩ ⟨hl,hm⟩ v h0 h1
  simp only at hl hm
  have hh:∀ d i:Nat,i+d=l.length→∀ u:Int,u≤16→∃ r,Evt (fun k=>spec_l3Left.l0 k u (i:Int) a b l) r∧r≤16∧(if ((((l.drop i).map (siz n)).sum:Nat):Int)≤u then r=u - (((l.drop i).map (siz n)).sum:Nat) else r < 0):=by
   intro d
   induction d with
   | zero =>
    intro i hi u hu
    refine ⟨u,Evt.step ?_,hu,?_⟩
    ·simp only [spec_l3Left.l0]
     exact Evt.neg (by omega) (Evt.ret _)
    ·rw [List.drop_of_length_le (by omega)]
     simp only [List.map_nil,List.sum_nil]
     split <;> omega
   | succ d ihd =>
    intro i hi u hu
    have hi':i < l.length:=by omega
    rw [List.drop_eq_getElem_cons hi',List.map_cons,List.sum_cons]
    by_cases hu0:u ≥ 0
    ·obtain ⟨r,hr,hr',hc⟩:=ih l[i] (hm _ (List.getElem_mem hi')) u hu0 hu
     obtain ⟨r2,hr2,hr2',hc2⟩:=ihd (i+1) (by omega) r hr'
     refine ⟨r2,Evt.step ?_,hr2',?_⟩
     ·simp only [spec_l3Left.l0]
      rw [rxI_at l i hi',w64s (by omega)]
      exact Evt.pos (by omega) (Evt.pos hu0 (Evt.pos (by omega) (Evt.bind hr hr2)))
     ·generalize (((l.drop (i+1)).map (siz n)).sum)=s at *
      generalize siz n l[i]=t at *
      split at hc <;> split at hc2 <;> split <;> omega
    ·refine ⟨u,Evt.step ?_,hu,?_⟩
     ·simp only [spec_l3Left.l0]
      exact Evt.pos (by omega) (Evt.neg hu0 (Evt.ret _))
     ·rw [if_neg (by omega)];omega
  obtain ⟨r,hr,hr',hc⟩:=hh l.length 0 (by omega) (v - 1) (by omega)
  refine ⟨r,Evt.step ?_,hr',?_⟩
  ·simp only [spec_l3Left.f]
   rw [w64 (by omega) (by omega)]
   exact hr
  ·rw [List.drop_zero] at hc
   have e:siz (n+1) (⟨a,b,l⟩:S65)=1+(l.map (siz n)).sum:=by simp [siz]
   by_cases hs:((siz (n+1) (⟨a,b,l⟩:S65):Nat):Int)≤v
   ·rw [if_pos hs]
    rw [if_pos (by omega)] at hc
    omega
   ·rw [if_neg hs]
    rw [if_neg (by omega)] at hc
    exact hc
theorem mem_sum {n:Nat} (l:List S65) (y:S65) (h:y ∈ l):siz n y≤(l.map (siz n)).sum:=by
 induction l with
 | nil=>cases h
 | cons x l ih =>
  rw [List.map_cons,List.sum_cons]
  rcases List.mem_cons.1 h with rfl|h
  ·omega
  ·have:=ih h;omega
theorem spec_l3Depth_ev (n:Nat):∀ x:S65,Ht n x→siz n x≤16→Evt (fun k=>spec_l3Depth.f k x.f0 x.f1 x.f2) (dep n x:Int):=by
 induction n with
 | zero=>intro x h;exact h.elim
 | succ n ih =>
  rintro ⟨a,b,l⟩ ⟨hl,hm⟩ hs
  simp only at hl hm
  simp only [siz] at hs
  have hx:∀ y ∈ l,siz n y≤16:=by
   intro y hy
   have:siz n y≤(l.map (siz n)).sum:=mem_sum l y hy
   omega
  have hh:∀ d i:Nat,i+d=l.length→∀ u:Nat,u≤16→Evt (fun k=>spec_l3Depth.l0 k (u:Int) (i:Int) a b l) ((max u (((l.drop i).map (dep n)).foldr max 0)+1:Nat):Int):=by
   intro d
   induction d with
   | zero =>
    intro i hi u hu
    refine Evt.step ?_
    simp only [spec_l3Depth.l0]
    rw [List.drop_of_length_le (by omega)]
    refine Evt.neg (by omega) ((Evt.ret _).cast ?_)
    rw [w64 (by omega) (by omega)]
    simp
   | succ d ihd =>
    intro i hi u hu
    have hi':i < l.length:=by omega
    have h1:=hx _ (List.getElem_mem hi')
    have h2:=dep_le_siz n l[i]
    refine Evt.step ?_
    simp only [spec_l3Depth.l0]
    rw [List.drop_eq_getElem_cons hi',List.map_cons,List.foldr_cons]
    rw [rxI_at l i hi',w64s (by omega)]
    refine Evt.pos (by omega) (Evt.pos (by omega) (Evt.bind (ih _ (hm _ (List.getElem_mem hi')) h1) (Evt.bindc (a:=((max u (dep n l[i]):Nat):Int)) ?_ ?_)))
    ·simp only [spec_l1Max.f]
     split
     ·congr 1;omega
     ·congr 1;omega
    ·refine (ihd (i+1) (by omega) (max u (dep n l[i])) (by omega)).cast ?_
     congr 1
     generalize ((l.drop (i+1)).map (dep n)).foldr max 0=z
     omega
  refine Evt.step ?_
  simp only [spec_l3Depth.f]
  refine (hh l.length 0 (by omega) 0 (by omega)).cast ?_
  simp [dep]
theorem spec_l3Args_ev (a:Int):Evt (fun k=>spec_l3Args.f k a) (arN a:Int):=by
 refine ⟨1,fun k hk=>?_⟩
 obtain ⟨m,rfl⟩:∃ m,k=m+1:=⟨k - 1,by omega⟩
 have h:a=5∨a=6∨a=7∨a=8∨a=9∨(a ≠ 5∧a ≠ 6∧a ≠ 7∧a ≠ 8∧a ≠ 9):=by omega
 rcases h with rfl|rfl|rfl|rfl|rfl|⟨h1,h2,h3,h4,h5⟩
 all_goals simp [spec_l3Args.f,spec_l3Args.j0,arN, *]
theorem spec_l3All_ev (n:Nat):∀ x:S65,Ht n x→Evt (fun k=>spec_l3All.f k x.f0 x.f1 x.f2) (alls n x):=by
 induction n with
 | zero=>intro x h;exact h.elim
 | succ n ih =>
  rintro ⟨a,b,l⟩ ⟨hl,hm⟩
  simp only at hl hm
  refine Evt.step ?_
  simp only [spec_l3All.f,alls]
  have hh:=Evt.up (fun k i=>spec_l3All.l0 k i a b l) l.length (fun i=>(l.drop i).all (alls n) && kOk a b l.length) ?_ ?_
  ·simpa using hh
  ·refine Evt.step ?_
   simp only [spec_l3All.l0]
   rw [List.drop_of_length_le (by omega)]
   refine Evt.neg (by omega) ?_
   simp only [List.all_nil,Bool.true_and]
   unfold kOk
   by_cases h3:a=3
   ·rw [if_pos h3]
    refine Evt.pos h3 ?_
    by_cases h1:b.size=1
    ·refine Evt.pos (by omega) (Evt.bind (spec_IsWord_ev _ (by omega)) ?_)
     cases hw:isW b with
     | true =>
      refine Evt.pos rfl ((Evt.ret _).cast ?_)
      have e:((l.length:Int) == 0)=decide (l.length=0):=by rw [show ((l.length:Int) == 0)=decide ((l.length:Int)=0) from rfl];congr 1;apply propext;omega
      simp [h1,e]
     | false=>exact Evt.neg (by decide) ((Evt.ret _).cast (by simp))
    ·exact Evt.neg (by omega) ((Evt.ret _).cast (by simp [h1]))
   ·rw [if_neg h3]
    refine Evt.neg h3 ?_
    by_cases hr:1≤a∧a≤9
    ·refine Evt.bindc (a:=true) (by simp [spec_l1In.f,hr.1,hr.2]) (Evt.pos rfl ?_)
     by_cases h1:b.size=0
     ·refine Evt.pos ((toList_nil_iff _).2 h1) (Evt.bind (spec_l3Args_ev _) ((Evt.ret _).cast ?_))
      have e:((l.length:Int) == (arN a:Int))=decide (l.length=arN a):=by rw [show ((l.length:Int) == (arN a:Int))=decide ((l.length:Int)=(arN a:Int)) from rfl];congr 1;apply propext;omega
      simp [h1,hr.1,hr.2,e]
     ·exact Evt.neg (fun h=>h1 ((toList_nil_iff _).1 h)) ((Evt.ret _).cast (by simp [h1]))
    ·refine Evt.bindc (a:=false) ?_ (Evt.neg (by decide) ((Evt.ret _).cast (by simp [hr])))
     simp only [spec_l1In.f]
     by_cases hr1:a ≥ 1
     ·rw [if_pos hr1];congr 1;simp;omega
     ·rw [if_neg hr1]
  ·intro i hi h
   refine Evt.step ?_
   simp only [spec_l3All.l0]
   rw [rxI_at l i hi,w64s (by omega),List.drop_eq_getElem_cons hi]
   refine Evt.pos (by omega) (Evt.pos (by omega) (Evt.bind (ih _ (hm _ (List.getElem_mem hi))) ?_))
   rw [List.all_cons]
   cases alls n l[i] with
   | true=>exact Evt.pos rfl (h.cast (by simp))
   | false=>exact Evt.neg (by decide) ((Evt.ret _).cast (by simp))
theorem spec_IsValidRegex_ev (x:S65) (h:Sm x):Evt (fun k=>spec_IsValidRegex.f k x.f0 x.f1 x.f2) (decide (nds 6 x≤16)):=by
 obtain ⟨n,hn⟩:=h.ht
 rw [nds_eq n x 6 hn]
 simp only [spec_IsValidRegex.f]
 obtain ⟨r,hr,_,hc⟩:=spec_l3Left_ev n x hn 16 (by omega) (by omega)
 refine Evt.bind hr ?_
 by_cases h1:siz n x≤16
 ·rw [if_pos (by omega)] at hc
  refine Evt.pos (by omega) (Evt.bind (spec_l3Depth_ev n x hn h1) ?_)
  by_cases h2:dep n x≤6
  ·refine Evt.pos (by omega) (Evt.bind (spec_l3All_ev n x hn) ((Evt.ret _).cast ?_))
   cases ha:alls n x <;> simp [h1,h2]
  ·exact Evt.neg (by omega) ((Evt.ret _).cast (by simp [h2]))
 ·rw [if_neg (by omega)] at hc
  exact Evt.neg (by omega) ((Evt.ret _).cast (by simp [h1]))
theorem eqRegex_ev (x:S65) (h:Sm x):Evt (fun k=>laws_eqRegex.f k x.f0 x.f1 x.f2 x.f0 x.f1 x.f2) true:=by
 induction h with
 | mk a b l hl hs ih =>
  refine Evt.step ?_
  simp only [laws_eqRegex.f]
  refine Evt2.diag (g:=fun i j=>laws_eqRegexG.f (fun _=>laws_eqRegex.f i) j a b l a b l) ?_
  simp only [laws_eqRegexG.f,laws_eqRegexSG.f]
  refine Evt2.pos trivial (Evt2.pos trivial (Evt2.bind2 (a:=true) (Evt2.pos trivial ?_) (Evt2.pos rfl (Evt2.ret _))))
  have hh:∀ d i:Nat,i+d=l.length→Evt2 (fun p q=>laws_eqRegexSG.l0 (fun _=>laws_eqRegex.f p) q l l (i:Int)) true:=by
   intro d
   induction d with
   | zero =>
    intro i hi
    refine Evt2.step ?_
    simp only [laws_eqRegexSG.l0]
    exact Evt2.neg (by omega) (Evt2.ret _)
   | succ d ihd =>
    intro i hi
    have hi':i < l.length:=by omega
    refine Evt2.step ?_
    simp only [laws_eqRegexSG.l0]
    rw [rxI_at l i hi',w64s (by omega)]
    exact Evt2.pos (by omega) (Evt2.pos (by omega) (Evt2.pos (by omega) (Evt2.bind (ih _ (List.getElem_mem hi')) (Evt2.pos rfl (ihd (i+1) (by omega))))))
  exact hh l.length 0 (by omega)
end Go.Proofs.YtffjfdoghofkdaaGreat.F
namespace Go.Proofs.YtffjfdoghofkdaaGreat.F
open Go.RowKit YtffjfdoghofkdaaGreatW.PrintWords YtffjfdoghofkdaaGreat.Pl YtffjfdoghofkdaaGreat.A
theorem szIntS_eq (l:List Int) (a:Int) (ha : -1≤a) (ha':a≤1048576) (hl:l.length≤9223372036854775807) :
  ∃ t,laws_szIntS.f l a=some t∧(t = -1∨(0≤t∧t=a - l.length)):=by
 unfold laws_szIntS.f
 rw [w64_sub ha ha' hl]
 by_cases h1:a - l.length < 0
 ·exact ⟨-1,by rw [if_pos h1],.inl rfl⟩
 ·rw [if_neg h1];exact ⟨_,rfl,.inr ⟨by omega,rfl⟩⟩
theorem set_next (l:List Int) (i n:Nat) (hn:l.length=n) (hi:i < n):(l.take i ++ List.replicate (n - i) 0).set i (rd l (i:Int))=l.take (i+1) ++ List.replicate (n - (i+1)) 0:=by
 have hl:(l.take i).length=i:=by rw [List.length_take];omega
 have e:rd l (i:Int)=l[i]:=by simp [rd,show i < l.length by omega]
 rw [List.set_append_right _ _ (by omega),hl,Nat.sub_self,show n - i=(n - (i+1))+1 by omega,List.replicate_succ,List.set_cons_zero,List.take_succ_eq_append_getElem (by omega),e,List.append_assoc]
 rfl
theorem toIntS_ev (l:List Int) (hl:l.length≤35184372088832):Evt (fun k=>laws_toIntS.f k l) l:=by
 simp only [laws_toIntS.f]
 refine Evt.pos (by omega) (Evt.pos (by omega) ?_)
 rw [Int.toNat_natCast]
 have h:∀ d i:Nat,i+d=l.length→Evt (fun k=>laws_toIntS.l0 k l (l.take i ++ List.replicate (l.length - i) 0) (i:Int)) l:=by
  intro d
  induction d with
  | zero =>
   intro i hi
   refine Evt.step ?_
   simp only [laws_toIntS.l0]
   refine Evt.neg (by omega) (Evt.const ?_)
   obtain rfl:i=l.length:=by omega
   simp
  | succ d ih =>
   intro i hi
   refine Evt.step ?_
   simp only [laws_toIntS.l0]
   rw [w64s (by omega),Int.toNat_natCast,set_next l i l.length rfl (by omega)]
   exact Evt.pos (by omega) (Evt.pos (by omega) (Evt.pos (by simp;omega) (ih (i+1) (by omega))))
 simpa using h l.length 0 (by omega)
theorem eqIntS_ev (l l':List Int) (hl:l.length≤9223372036854775807):Evt (fun k=>laws_eqIntS.f k l l') (decide (l=l')):=by
 simp only [laws_eqIntS.f]
 by_cases he:l.length=l'.length
 ·refine Evt.pos (by omega) ?_
  have h:=Evt.up (fun k i=>laws_eqIntS.l0 k l l' i) l.length (fun i=>decide (l.drop i=l'.drop i)) ?_ ?_
  ·simpa using h
  ·refine Evt.step ?_
   simp only [laws_eqIntS.l0]
   refine Evt.neg (by omega) (Evt.const ?_)
   rw [List.drop_of_length_le (Nat.le_refl _),List.drop_of_length_le (by omega)]
   rfl
  ·intro i hi h
   refine Evt.step ?_
   simp only [laws_eqIntS.l0]
   have hi':i < l'.length:=by omega
   refine Evt.pos (by omega) (Evt.pos (by omega) (Evt.pos (by omega) ?_))
   rw [List.drop_eq_getElem_cons hi,List.drop_eq_getElem_cons hi',w64s (by omega)]
   have e1:rd l (i:Int)=l[i]:=by simp [rd,hi]
   have e2:rd l' (i:Int)=l'[i]:=by simp [rd,hi']
   rw [e1,e2]
   by_cases hc:l[i]=l'[i]
   ·exact Evt.pos hc (h.cast (by rw [hc];simp only [List.cons.injEq,true_and]))
   ·exact Evt.neg hc (Evt.const (by rw [decide_eq_false (fun e=>hc (List.cons.inj e).1)]))
 ·refine Evt.neg (by omega) (Evt.const ?_)
  have:l ≠ l':=fun e=>he (by rw [e])
  simp [this]
end Go.Proofs.YtffjfdoghofkdaaGreat.F
namespace Go.Proofs.YtffjfdoghofkdaaGreat.F
open Go.RowKit YtffjfdoghofkdaaGreatW.PrintWords YtffjfdoghofkdaaGreat.Pl YtffjfdoghofkdaaGreat.A YtffjfdoghofkdaaGreat.Ext
def CpC (a:Int) (b c:ByteArray) (d:Int) (e:ByteArray) (l:List S101) (m:List Int) (n:Int) (y:List S65):Prop :=
 Sm ⟨d,e,y⟩∧m.length≤1048576∧Evt (fun k=>laws_toConstraint.f k a b c d e l m n) (a,b,c,d,e,y,m,n)
theorem szConstraint_ev (a:Int) (b c:ByteArray) (d:Int) (e:ByteArray) (l:List S101) (m:List Int) (n:Int) (N:Nat) (v:Int) (hv:0≤v) (hv':v≤1048576) (hb:b.size≤9223372036854775807) (hc:c.size≤9223372036854775807) (hr:RxOk N ⟨d,e,l⟩) (hm:m.length≤9223372036854775807) :
  ∃ t,Evt (fun k=>laws_szConstraint.f k a b c d e l m n v) t∧(t = -1∨(0≤t∧t≤v∧∃ y,CpC a b c d e l m n y)):=by
 simp only [laws_szConstraint.f]
 rw [w64_sub (by omega) (by omega) hb]
 by_cases c1:v - b.size < 0
 ·exact ⟨-1,Evt.pos c1 (Evt.ret _),.inl rfl⟩
 rw [w64_sub (by omega) (by omega) hc]
 by_cases c2:v - b.size - c.size < 0
 ·exact ⟨-1,Evt.neg c1 (Evt.pos c2 (Evt.ret _)),.inl rfl⟩
 obtain ⟨t,ht,h1⟩:=szRegex_ev N ⟨d,e,l⟩ hr (v - b.size - c.size) (by omega) (by omega)
 simp only at ht
 rcases h1 with rfl|⟨h1,h2,h3⟩
 ·exact ⟨-1,Evt.neg c1 (Evt.neg c2 (Evt.bind ht (Evt.pos (by decide) (Evt.ret _)))),.inl rfl⟩
 obtain ⟨u,hu,h4⟩:=szIntS_eq m t (by omega) (by omega) hm
 rcases h4 with rfl|⟨h4,h5⟩
 ·exact ⟨-1,Evt.neg c1 (Evt.neg c2 (Evt.bind ht (Evt.neg (by omega) (Evt.bindc hu (Evt.pos (by decide) (Evt.ret _)))))),.inl rfl⟩
 refine ⟨u,Evt.neg c1 (Evt.neg c2 (Evt.bind ht (Evt.neg (by omega) (Evt.bindc hu (Evt.neg (by omega) (Evt.ret _)))))),.inr ⟨h4,by omega,?_⟩⟩
 obtain ⟨⟨d',e',y⟩,hs,he⟩:=h3
 simp only at he
 have hde:d'=d∧e'=e:=by
  obtain ⟨K,hK⟩:=he
  have h6:=hK (K+1) (by omega)
  simp only [laws_toRegex.f,laws_toRegexG.f] at h6
  obtain ⟨z,_,h7⟩:=Option.bind_eq_some_iff.mp h6
  simp only [Option.some.injEq,Prod.mk.injEq] at h7
  exact ⟨h7.1.symm,h7.2.1.symm⟩
 obtain ⟨rfl,rfl⟩:=hde
 refine ⟨y,hs,by omega,?_⟩
 simp only [laws_toConstraint.f]
 exact Evt.bind he (Evt.bind (toIntS_ev m (by omega)) (Evt.ret _))
theorem eqConstraint_ev (a:Int) (b c:ByteArray) (d:Int) (e:ByteArray) (y:List S65) (m:List Int) (n:Int) (hy:Sm ⟨d,e,y⟩) (hm:m.length≤1048576):Evt (fun k=>laws_eqConstraint.f k a b c d e y m n a b c d e y m n) true:=by
 simp only [laws_eqConstraint.f]
 exact Evt.pos trivial (Evt.pos trivial (Evt.pos trivial (Evt.bind (eqRegex_ev _ hy) (Evt.pos rfl (Evt.bind (eqIntS_ev m m (by omega)) (Evt.pos (by simp) (Evt.pos trivial (Evt.ret _))))))))
def zR (d:Int) (e:ByteArray) (l:List S65):Bool:=decide (d=0) && decide (e.size=0) && ((l.length:Int) == 0)
theorem spec_l9Zero_eq (d:Int) (e:ByteArray) (l:List S65):spec_l9Zero.f d e l=some (zR d e l):=by
 unfold spec_l9Zero.f zR
 by_cases h1:d=0
 ·by_cases h2:e.size=0
  ·rw [if_pos h1,if_pos ((toList_nil_iff _).2 h2)];simp [h1,h2]
  ·rw [if_pos h1,if_neg (fun h=>h2 ((toList_nil_iff _).1 h))];simp [h2]
 ·rw [if_neg h1];simp [h1]
theorem impl_isZeroRegex_eq (d:Int) (e:ByteArray) (l:List S65):impl_isZeroRegex.f d e l=some (zR d e l):=by
 unfold impl_isZeroRegex.f zR
 by_cases h1:d=0
 ·by_cases h2:e.size=0
  ·rw [if_pos h1,if_pos ((toList_nil_iff _).2 h2)];simp [h1,h2]
  ·rw [if_pos h1,if_neg (fun h=>h2 ((toList_nil_iff _).1 h))];simp [h2]
 ·rw [if_neg h1];simp [h1]
def inR (a lo hi:Int):Bool:=decide (lo≤a∧a≤hi)
theorem spec_l1In_eq (a lo hi:Int):spec_l1In.f a lo hi=some (inR a lo hi):=by
 unfold spec_l1In.f inR
 by_cases h:a ≥ lo
 ·rw [if_pos h];congr 1;simp [show lo≤a from h]
 ·rw [if_neg h];congr 1;simp;omega
theorem impl_within_eq (a lo hi:Int):impl_within.f a lo hi=some (inR a lo hi):=by
 unfold impl_within.f inR
 by_cases h:a ≥ lo
 ·rw [if_pos h];congr 1;simp [show lo≤a from h]
 ·rw [if_neg h];congr 1;simp;omega
def cfs (m:List Int):Bool:=m.all fun c=>inR c (-9) 9
theorem rdI_at (m:List Int) (i:Nat) (h:i < m.length):rd m (i:Int)=m[i]:=by simp [rd,h]
theorem spec_l9Coeffs_ev (m:List Int) (hm:m.length≤1048576):Evt (fun k=>spec_l9Coeffs.f k m) (cfs m && ((m.length:Int) == 3)):=by
 have h:=Evt.up (fun k i=>spec_l9Coeffs.l0 k m i) m.length (fun i=>cfs (m.drop i) && ((m.length:Int) == 3)) ?_ ?_
 ·simpa [spec_l9Coeffs.f] using h
 ·refine Evt.step ?_
  simp only [spec_l9Coeffs.l0]
  rw [List.drop_of_length_le (by omega)]
  exact Evt.neg (by omega) ((Evt.ret _).cast (by simp [cfs]))
 ·intro i hi h
  refine Evt.step ?_
  simp only [spec_l9Coeffs.l0]
  rw [rdI_at m i hi,w64s (by omega),List.drop_eq_getElem_cons hi]
  refine Evt.pos (by omega) (Evt.pos (by omega) (Evt.bindc (spec_l1In_eq _ _ _) ?_))
  have e:cfs (m[i] :: m.drop (i+1))=(inR m[i] (-9) 9 && cfs (m.drop (i+1))):=rfl
  rw [e]
  cases inR m[i] (-9) 9 with
  | true=>exact Evt.pos rfl (h.cast (by simp))
  | false=>exact Evt.neg (by decide) ((Evt.ret _).cast (by simp))
theorem impl_coeffs_ev (m:List Int) (hm:m.length≤1048576):Evt (fun k=>slices_ContainsFunc_int_int.f k m) (!cfs m):=by
 simp only [slices_ContainsFunc_int_int.f,slices_IndexFunc_int_int.f]
 have h:∀ d i:Nat,i+d=m.length→∃ r,Evt (fun k=>slices_IndexFunc_int_int.l0 k m (m.length:Int) (i:Int)) r∧decide (r ≥ 0) = !cfs (m.drop i):=by
  intro d
  induction d with
  | zero =>
   intro i hi
   refine ⟨-1,Evt.step ?_,?_⟩
   ·simp only [slices_IndexFunc_int_int.l0]
    exact Evt.neg (by omega) (Evt.ret _)
   ·rw [List.drop_of_length_le (by omega)];rfl
  | succ d ih =>
   intro i hi
   have hi':i < m.length:=by omega
   have e:cfs (m[i] :: m.drop (i+1))=(inR m[i] (-9) 9 && cfs (m.drop (i+1))):=rfl
   rw [List.drop_eq_getElem_cons hi',e]
   obtain ⟨r,hr,hc⟩:=ih (i+1) (by omega)
   cases hq:inR m[i] (-9) 9 with
   | true =>
    refine ⟨r,Evt.step ?_,by simpa using hc⟩
    simp only [slices_IndexFunc_int_int.l0,impl_IsValidConstraint_1.f]
    rw [rdI_at m i hi',w64s (by omega)]
    exact Evt.pos (by omega) (Evt.pos (by omega) (Evt.pos (by omega) (Evt.bind (Evt.bindc (impl_within_eq _ _ _) (Evt.ret _)) (Evt.neg (by simp [hq]) hr))))
   | false =>
    refine ⟨(i:Int),Evt.step ?_,by simp⟩
    simp only [slices_IndexFunc_int_int.l0,impl_IsValidConstraint_1.f]
    rw [rdI_at m i hi']
    exact Evt.pos (by omega) (Evt.pos (by omega) (Evt.pos (by omega) (Evt.bind (Evt.bindc (impl_within_eq _ _ _) (Evt.ret _)) (Evt.pos (by simp [hq]) (Evt.ret _)))))
 obtain ⟨r,hr,hc⟩:=h m.length 0 (by omega)
 exact Evt.bind hr ((Evt.ret _).cast (by rw [hc];rfl))
def valX (x:Bool) (a:Int) (b c:ByteArray) (d:Int) (e:ByteArray) (l:List S65) (m:List Int) (n:Int):Bool :=
 if a=1∨a=2 then isTm b && (isTm c && (zR d e l && x))
 else if a=3∨a=4 then isTm b && (decide (c.size=0) && (decide (nds 6 ⟨d,e,l⟩≤16) && x))
 else if a=5 then decide (b.size=0) && (decide (c.size=0) && (zR d e l && ((cfs m && ((m.length:Int) == 3)) && inR n (-99) 99)))
 else false
def valC (a:Int) (b c:ByteArray) (d:Int) (e:ByteArray) (l:List S65) (m:List Int) (n:Int):Bool :=
 valX (decide (m.length=0) && (n == 0)) a b c d e l m n
section
variable {a : Int} {b c : ByteArray} {d : Int} {e : ByteArray} {l : List S65} {m : List Int} {n : Int}
theorem and_ev {g h:Nat→Option Bool} {p q:Bool} (hg:Evt g p) (hh:p=true→Evt h q):Evt (fun k=>(g k).bind fun t=>if t=true then h k else some false) (p && q):=by
 refine Evt.bind hg ?_
 cases p with
 | true=>exact Evt.pos rfl ((hh rfl).cast (by simp))
 | false=>exact Evt.neg (by decide) ((Evt.ret _).cast (by simp))
theorem nil_ev {s:ByteArray} {h:Nat→Option Bool} {q:Bool} (hh:s.size=0→Evt h q):Evt (fun k=>if s.toList=([]:List UInt8) then h k else some false) (decide (s.size=0) && q):=by
 by_cases hs:s.size=0
 ·exact Evt.pos ((toList_nil_iff _).2 hs) ((hh hs).cast (by simp [hs]))
 ·exact Evt.neg (fun h=>hs ((toList_nil_iff _).1 h)) ((Evt.ret _).cast (by simp [hs]))
theorem last_ev {g:Nat→Option Bool} {p:Bool} (hg:Evt g p):Evt (fun k=>(g k).bind fun t=>some t) p:=Evt.bind hg (Evt.ret _)
theorem spec_j1t (x:Bool) (v:Int) (hb:b.size≤9223372036854775807) (hc:c.size≤9223372036854775807):Evt (fun k=>spec_IsValidConstraint.j1 k x v true a b c d e l m n) (isTm b && (isTm c && (zR d e l && x))):=by
 refine Evt.step ?_
 simp only [spec_IsValidConstraint.j1]
 exact Evt.pos trivial (and_ev (spec_IsTerm_ev b hb) fun _=>and_ev (spec_IsTerm_ev c hc) fun _=>and_ev (Evt.const (spec_l9Zero_eq d e l)) fun _=>Evt.ret _)
theorem spec_j2t (x:Bool) (v:Int) (hb:b.size≤9223372036854775807) (hr:Sm ⟨d,e,l⟩):Evt (fun k=>spec_IsValidConstraint.j2 k x v true a b c d e l m n) (isTm b && (decide (c.size=0) && (decide (nds 6 ⟨d,e,l⟩≤16) && x))):=by
 refine Evt.step ?_
 simp only [spec_IsValidConstraint.j2]
 exact Evt.pos trivial (and_ev (spec_IsTerm_ev b hb) fun _=>nil_ev fun _=>and_ev (spec_IsValidRegex_ev ⟨d,e,l⟩ hr) fun _=>Evt.ret _)
theorem spec_IsValidConstraint_ev (hb:b.size≤9223372036854775807) (hc:c.size≤9223372036854775807) (hr:Sm ⟨d,e,l⟩) (hm:m.length≤1048576):Evt (fun k=>spec_IsValidConstraint.f k a b c d e l m n) (valC a b c d e l m n):=by
 have hj:∀ x:Bool,Evt (fun k=>spec_IsValidConstraint.j0 k x a b c d e l m n) (valX x a b c d e l m n):=by
  intro x
  refine Evt.step ?_
  simp only [spec_IsValidConstraint.j0]
  unfold valX
  by_cases h1:a=1
  ·subst h1;exact Evt.pos rfl ((spec_j1t x _ hb hc).cast (by simp))
  refine Evt.neg h1 ?_
  by_cases h2:a=2
  ·subst h2;exact (spec_j1t x _ hb hc).cast (by simp)
  rw [show (a == 2)=false by simpa using h2,if_neg (by omega)]
  refine Evt.step ?_
  simp only [spec_IsValidConstraint.j1]
  refine Evt.neg (by decide) ?_
  by_cases h3:a=3
  ·subst h3;exact Evt.pos rfl ((spec_j2t x _ hb hr).cast (by simp))
  refine Evt.neg h3 ?_
  by_cases h4:a=4
  ·subst h4;exact (spec_j2t x _ hb hr).cast (by simp)
  rw [show (a == 4)=false by simpa using h4,if_neg (by omega)]
  refine Evt.step ?_
  simp only [spec_IsValidConstraint.j2]
  refine Evt.neg (by decide) ?_
  by_cases h5:a=5
  ·rw [if_pos h5]
   exact Evt.pos h5 (nil_ev fun _=>nil_ev fun _=>and_ev (Evt.const (spec_l9Zero_eq d e l)) fun _=>and_ev (spec_l9Coeffs_ev m hm) fun _=>last_ev (Evt.const (spec_l1In_eq _ _ _)))
  ·rw [if_neg h5]
   exact Evt.neg h5 (Evt.ret _)
 simp only [spec_IsValidConstraint.f]
 unfold valC
 by_cases h0:m.length=0
 ·exact Evt.pos (by omega) ((hj _).cast (by simp [h0]))
 ·exact Evt.neg (by omega) ((hj _).cast (by simp [h0]))
theorem impl_j1t (v:Int):Evt (fun k=>impl_IsValidConstraint.j1 k v true a b c d e l m n) (isTm b && (isTm c && (zR d e l))):=by
 refine Evt.step ?_
 simp only [impl_IsValidConstraint.j1]
 exact Evt.pos trivial (and_ev (impl_IsTerm_ev b) fun _=>and_ev (impl_IsTerm_ev c) fun _=>last_ev (Evt.const (impl_isZeroRegex_eq d e l)))
theorem impl_j2t (v:Int):Evt (fun k=>impl_IsValidConstraint.j2 k v true a b c d e l m n) (isTm b && (decide (c.size=0) && (decide (nds 6 ⟨d,e,l⟩≤16)))):=by
 refine Evt.step ?_
 simp only [impl_IsValidConstraint.j2]
 exact Evt.pos trivial (and_ev (impl_IsTerm_ev b) fun _=>nil_ev fun _=>last_ev (impl_IsValidRegex_ev ⟨d,e,l⟩))
theorem impl_j0t:Evt (fun k=>impl_IsValidConstraint.j0 k true a b c d e l m n) false:=by
 refine Evt.step ?_
 simp only [impl_IsValidConstraint.j0]
 exact Evt.pos trivial (Evt.ret _)
theorem impl_IsValidConstraint_ev (hm:m.length≤1048576):Evt (fun k=>impl_IsValidConstraint.f k a b c d e l m n) (valC a b c d e l m n):=by
 have hj:Evt (fun k=>impl_IsValidConstraint.j0 k false a b c d e l m n) (valX true a b c d e l m n):=by
  refine Evt.step ?_
  simp only [impl_IsValidConstraint.j0]
  unfold valX
  refine Evt.neg (by decide) ?_
  by_cases h1:a=1
  ·subst h1;exact Evt.pos rfl ((impl_j1t _).cast (by simp))
  refine Evt.neg h1 ?_
  by_cases h2:a=2
  ·subst h2;exact (impl_j1t _).cast (by simp)
  rw [show (a == 2)=false by simpa using h2,if_neg (by omega)]
  refine Evt.step ?_
  simp only [impl_IsValidConstraint.j1]
  refine Evt.neg (by decide) ?_
  by_cases h3:a=3
  ·subst h3;exact Evt.pos rfl ((impl_j2t _).cast (by simp))
  refine Evt.neg h3 ?_
  by_cases h4:a=4
  ·subst h4;exact (impl_j2t _).cast (by simp)
  rw [show (a == 4)=false by simpa using h4,if_neg (by omega)]
  refine Evt.step ?_
  simp only [impl_IsValidConstraint.j2]
  refine Evt.neg (by decide) ?_
  by_cases h5:a=5
  ·rw [if_pos h5]
   refine Evt.pos h5 (nil_ev fun _=>nil_ev fun _=>and_ev (Evt.const (impl_isZeroRegex_eq d e l)) fun _=>?_)
   by_cases h3':m.length=3
   ·refine Evt.pos (by omega) ?_
    rw [show ((m.length:Int) == 3)=true by simp [h3'],Bool.and_true,Bool.and_comm (cfs m)]
    exact and_ev (Evt.const (impl_within_eq _ _ _)) fun _=>Evt.bind (impl_coeffs_ev m hm) ((Evt.ret _).cast (by simp))
   ·refine Evt.neg (by omega) ((Evt.ret _).cast ?_)
    have e3:((m.length:Int) == 3)=false:=by simp;omega
    simp [e3]
  ·rw [if_neg h5]
   exact Evt.neg h5 (Evt.ret _)
 simp only [impl_IsValidConstraint.f]
 unfold valC
 have hx:∀ x,a=5→valX x a b c d e l m n=valX true a b c d e l m n:=by
  intro x h;subst h;simp [valX]
 have hy:¬ a=5→valX false a b c d e l m n=false:=by
  intro h;unfold valX;simp [h]
 by_cases h5:a=5
 ·exact Evt.pos h5 (hj.cast (hx _ h5).symm)
 refine Evt.neg h5 ?_
 by_cases h0:m.length=0
 ·refine Evt.pos (by omega) ?_
  by_cases hn:n=0
  ·rw [show (n != 0)=false by simp [hn]]
   exact hj.cast (by simp [h0,hn])
  ·rw [show (n != 0)=true by simp [hn]]
   exact impl_j0t.cast (by rw [show (n == 0)=false by simp [hn]];simp [hy h5])
 ·exact Evt.neg (by omega) (impl_j0t.cast (by simp [h0,hy h5]))
end
theorem bytesOf_strOf (s:ByteArray):strOfNums (bytesOf s)=s:=by
 apply bytesOf_inj
 unfold strOfNums bytesOf
 simp
theorem one_byte (s:ByteArray) (i:Nat) (h:i < s.size):bytesOf (s.extract i (i+1)) = [bt s (i:Int)]:=by
 have hl:i < (bytesOf s).length:=by rw [bytesOf_length];exact h
 rw [bytesOf_extract,List.drop_eq_getElem_cons hl,bt_get s i hl,show i+1 - i=1 by omega]
 rfl
theorem size_le_of (s:ByteArray):s.size=(bytesOf s).length:=(bytesOf_length s).symm
theorem strOfNums_size (l:List Int):(strOfNums l).size=l.length:=by
 unfold strOfNums
 show (List.toArray _).size=_
 simp
theorem impl_ApplyValues_eq (s x y z:ByteArray) (hs:s.size≤9223372036854775807) (hx:x.size≤1048576) (hy:y.size≤1048576) (hz:z.size≤1048576):impl_ApplyValues.f s x y z=some (replB (wordOf x y z) s):=by
 unfold impl_ApplyValues.f
 rw [if_pos ⟨hs,hx,hy,hz⟩]
theorem wordOf_var (x y z:ByteArray) {c:Int} (h0:0≤c) (h1:c≤255):(wordOf x y z c).2=isVr c:=by
 unfold wordOf
 rw [impl_isVariable_eq h0 h1]
 rfl
theorem spec_ValueOf_eq (x y z:ByteArray) (c:Int):spec_ValueOf.f x y z c=some (wordOf x y z c).1:=valueOf_some x y z c
theorem spec_ApplyValues_ev (s x y z:ByteArray) (hs:s.size≤9223372036854775807) (hx:x.size≤1048576) (hy:y.size≤1048576) (hz:z.size≤1048576):Evt (fun k=>spec_ApplyValues.f k s x y z) (replB (wordOf x y z) s):=by
 have h:∀ (d i:Nat) (acc:ByteArray),i+d=s.size→acc.size≤1048576→Evt (fun k=>spec_ApplyValues.l0 k s acc (i:Int) x y z) (strOfNums (repl (wordOf x y z) ((bytesOf s).drop i) (bytesOf acc))):=by
  intro d
  induction d with
  | zero =>
   intro i acc hi ha
   refine Evt.step ?_
   simp only [spec_ApplyValues.l0]
   refine Evt.neg (by omega) (Evt.const ?_)
   rw [List.drop_of_length_le za35]
   exact congrArg some (bytesOf_strOf acc).symm
  | succ d ih =>
   intro i acc hi ha
   have hl:i < (bytesOf s).length:=by rw [bytesOf_length];omega
   have hx1:((s.extract i (i+1)).size:Nat)=1:=by rw [size_le_of,one_byte s i (by omega)];rfl
   refine Evt.step ?_
   simp only [spec_ApplyValues.l0]
   rw [w64s (by omega),Int.toNat_natCast,Int.toNat_natCast]
   rw [List.drop_eq_getElem_cons hl,← bt_get s i hl]
   have hv:=wordOf_var x y z (bt0 s i) (bt255 s i)
   have hw:=wordOf_size x y z (bt s i) hx hy hz
   have hs2:=spec_ValueOf_eq x y z (bt s i)
   refine Evt.pos (by omega) (Evt.pos (by omega) (Evt.bindc (spec_l8Var_eq _) ?_))
   by_cases hc:isVr (bt s i)=true
   ·have e:(if (wordOf x y z (bt s (i:Int))).2=true then bytesOf (wordOf x y z (bt s (i:Int))).1 else [bt s (i:Int)])=bytesOf (wordOf x y z (bt s (i:Int))).1:=by rw [hv,if_pos hc]
    refine Evt.pos hc (Evt.bindc hs2 (Evt.pos (by omega) ?_))
    by_cases hbig:((acc ++ (wordOf x y z (bt s (i:Int))).1).size:Int) > 1048576
    ·refine Evt.pos hbig (Evt.const ?_)
     unfold repl
     simp only [e]
     rw [if_pos (by rw [← bytesOf_append,bytesOf_length];omega)]
     rfl
    ·refine Evt.neg hbig ((ih (i+1) (acc ++ (wordOf x y z (bt s (i:Int))).1) (by omega) (by omega)).cast ?_)
     rw [bytesOf_append]
     conv=>rhs;unfold repl
     simp only [e]
     rw [if_neg (by rw [← bytesOf_append,bytesOf_length];omega)]
   ·have e:(if (wordOf x y z (bt s (i:Int))).2=true then bytesOf (wordOf x y z (bt s (i:Int))).1 else [bt s (i:Int)]) = [bt s (i:Int)]:=by rw [hv,if_neg hc]
    refine Evt.neg hc (Evt.pos (by omega) (Evt.pos (by omega) (Evt.pos (by omega) ?_)))
    by_cases hbig:((acc ++ s.extract i (i+1)).size:Int) > 1048576
    ·refine Evt.pos hbig (Evt.const ?_)
     unfold repl
     simp only [e]
     rw [if_pos (by rw [← one_byte s i (by omega),← bytesOf_append,bytesOf_length];omega)]
     rfl
    ·refine Evt.neg hbig ((ih (i+1) (acc ++ s.extract i (i+1)) (by omega) (by omega)).cast ?_)
     rw [bytesOf_append,one_byte s i (by omega)]
     conv=>rhs;unfold repl
     simp only [e]
     rw [if_neg (by rw [← one_byte s i (by omega),← bytesOf_append,bytesOf_length];omega)]
 have:=h s.size 0 (⟨#[]⟩:ByteArray) (by omega) (by decide)
 rw [show bytesOf (⟨#[]⟩:ByteArray) = [] from rfl] at this
 simpa [spec_ApplyValues.f,replB] using this
theorem rx_of_nds:∀ (n m:Nat) (x:S65),n≤m→nds n x≤16→∃ t,rxOf m x=some t∧t.size=nds n x:=by
 intro n
 induction n with
 | zero=>intro m x _ h;exact absurd h (by simp [nds])
 | succ n ih =>
  intro m x hm h
  obtain ⟨m,rfl⟩:∃ m',m=m'+1:=⟨m - 1,by omega⟩
  unfold nds at h ⊢
  by_cases hk:kOk x.f0 x.f1 x.f2.length=true
  ·rw [if_pos hk] at h ⊢
   obtain ⟨a,b,l⟩:=x
   simp only at hk h ⊢
   have hlen:=kOk_len hk
   match l,hk,h,hlen with
   | [],hk,h,hlen =>
    have ha:a=1∨a=2∨a=3∨a=4:=by
     by_cases h3:a=3
     ·exact .inr (.inr (.inl h3))
     ·simp only [kOk,if_neg h3,Bool.and_eq_true,decide_eq_true_eq] at hk
      unfold arN at hlen
      simp only [List.length_nil] at hlen
      split at hlen
      ·omega
      ·split at hlen <;> omega
    rcases ha with rfl|rfl|rfl|rfl <;> exact ⟨_,rfl,rfl⟩
   | [x],hk,h,hlen =>
    simp only [List.map_cons,List.map_nil,List.sum_cons,List.sum_nil] at h ⊢
    obtain ⟨t,h1,h2⟩:=ih m x (by omega) (by omega)
    have ha:a=8∨a=9:=by
     unfold arN at hlen
     simp only [List.length_cons,List.length_nil] at hlen
     split at hlen
     ·omega
     ·split at hlen <;> omega
    rcases ha with rfl|rfl <;> refine ⟨_,by simp only [rxOf,h1];rfl,?_⟩ <;> simp only [Rx.size,h2] <;> omega
   | [x,y],hk,h,hlen =>
    simp only [List.map_cons,List.map_nil,List.sum_cons,List.sum_nil] at h ⊢
    obtain ⟨t,h1,h2⟩:=ih m x (by omega) (by omega)
    obtain ⟨u,h3,h4⟩:=ih m y (by omega) (by omega)
    have ha:a=5∨a=6∨a=7:=by
     unfold arN at hlen
     simp only [List.length_cons,List.length_nil] at hlen
     split at hlen
     ·assumption
     ·split at hlen <;> omega
    rcases ha with rfl|rfl|rfl <;> refine ⟨_,by simp only [rxOf,h1,h3];rfl,?_⟩ <;> simp only [Rx.size,h2,h4] <;> omega
   | _ :: _ :: _ :: _,hk,h,hlen =>
    have:=arN_le a
    simp only [List.length_cons] at hlen
    omega
  ·rw [if_neg hk] at h
   omega
theorem repl_le (G:Int→ByteArray × Bool) (m:Nat) (hm:1≤m) (hG:∀ c,(G c).1.size≤m):∀ (l acc:List Int),(repl G l acc).length≤acc.length+m * l.length:=by
 intro l
 induction l with
 | nil=>intro acc;exact Nat.le_refl _
 | cons c l ih =>
  intro acc
  have h1:(if (G c).2=true then bytesOf (G c).1 else [c]).length≤m:=by
   split
   ·rw [bytesOf_length];exact hG c
   ·exact hm
  unfold repl
  by_cases h2:(acc ++ (if (G c).2=true then bytesOf (G c).1 else [c])).length > 1048576
  ·rw [if_pos h2]
   exact Nat.zero_le _
  ·rw [if_neg h2]
   refine Nat.le_trans (ih _) ?_
   rw [List.length_append,List.length_cons,Nat.mul_succ]
   omega
theorem replB_le (G:Int→ByteArray × Bool) (m:Nat) (hm:1≤m) (hG:∀ c,(G c).1.size≤m) (s:ByteArray):(replB G s).size≤m * s.size:=by
 have:=repl_le G m hm hG (bytesOf s) []
 unfold replB
 rw [strOfNums_size]
 rw [bytesOf_length] at this
 simpa using this
theorem wordOf_le (x y z:ByteArray) (m:Nat) (hx:x.size≤m) (hy:y.size≤m) (hz:z.size≤m) (c:Int):(wordOf x y z c).1.size≤m:=by
 unfold wordOf impl_ValueOf.f
 repeat' split
 all_goals first|exact hx|exact hy|exact hz|exact Nat.zero_le _
theorem rxMatch_def (d:Int) (e:ByteArray) (l:List S65) (s:ByteArray) (h:nds 6 ⟨d,e,l⟩≤16) (hs:s.size≤400):∃ r,rxMatch d e l s=some r:=by
 obtain ⟨t,h1,h2⟩:=rx_of_nds 6 7 _ (by omega) h
 refine ⟨mt s t 0 s.size,?_⟩
 unfold rxMatch
 rw [if_pos hs,h1]
 show (if t.size≤16 then _ else _)=_
 rw [if_pos (by omega)]
theorem isW_size {s:ByteArray} (h:isW s=true):s.size≤30:=by
 simp only [isW,Bool.and_eq_true,decide_eq_true_eq] at h
 exact h.2
def isVs (x y z:ByteArray):Bool:=isW x && (isW y && isW z)
theorem impl_IsValues_ev (x y z:ByteArray) (hx:x.size≤9223372036854775807) (hy:y.size≤9223372036854775807) (hz:z.size≤9223372036854775807):Evt (fun k=>impl_IsValues.f k x y z) (isVs x y z) :=
 and_ev (impl_IsWord_ev x hx) fun _=>and_ev (impl_IsWord_ev y hy) fun _=>last_ev (impl_IsWord_ev z hz)
section
variable {a : Int} {b c : ByteArray} {d : Int} {e : ByteArray} {l : List S65} {m : List Int} {n : Int} {x y z : ByteArray}
theorem valC_use (h:valC a b c d e l m n=true):((a=1∨a=2)∧b.size≤12∧c.size≤12)∨((a=3∨a=4)∧b.size≤12∧nds 6 ⟨d,e,l⟩≤16)∨(a=5∧b.size≤12∧m.length=3):=by
 unfold valC valX at h
 split at h
 ·next ha =>
  simp only [isTm,Bool.and_eq_true,decide_eq_true_eq,beq_iff_eq] at h
  obtain ⟨⟨_,h1⟩,⟨_,h2⟩,_⟩:=h
  exact .inl ⟨ha,by omega,by omega⟩
 ·split at h
  ·next ha =>
   simp only [isTm,Bool.and_eq_true,decide_eq_true_eq,beq_iff_eq] at h
   obtain ⟨⟨_,h1⟩,_,h3,_⟩:=h
   exact .inr (.inl ⟨ha,by omega,h3⟩)
  ·split at h
   ·next ha =>
    simp only [Bool.and_eq_true,decide_eq_true_eq,beq_iff_eq] at h
    obtain ⟨h1,_,_,⟨_,h4⟩,_⟩:=h
    exact .inr (.inr ⟨ha,by omega,by omega⟩)
   ·cases h
theorem holds_ev (hv:valC a b c d e l m n=true) (hw:isVs x y z=true):∃ r,Evt (fun k=>spec_l9Holds.f k a b c d e l m n x y z) r∧impl_holds.f a b c d e l m n x y z=some r:=by
 simp only [isVs,Bool.and_eq_true] at hw
 have hx:=isW_size hw.1
 have hy:=isW_size hw.2.1
 have hz:=isW_size hw.2.2
 have hsz:∀ s:ByteArray,s.size≤12→(replB (wordOf x y z) s).size≤400:=fun s hs=>by
  have:=replB_le (wordOf x y z) 30 (by omega) (wordOf_le x y z 30 hx hy hz) s
  omega
 have sp:∀ s:ByteArray,s.size≤12→Evt (fun k=>spec_ApplyValues.f k s x y z) (replB (wordOf x y z) s):=fun s hs=>spec_ApplyValues_ev s x y z (by omega) (by omega) (by omega) (by omega)
 have im:∀ s:ByteArray,s.size≤12→impl_ApplyValues.f s x y z=some (replB (wordOf x y z) s):=fun s hs=>impl_ApplyValues_eq s x y z (by omega) (by omega) (by omega) (by omega)
 simp only [spec_l9Holds.f]
 unfold impl_holds.f
 rcases valC_use hv with ⟨ha,hb,hc⟩|⟨ha,hb,hn⟩|⟨ha,hb,hl⟩
 ·rcases ha with rfl|rfl
  ·exact ⟨_,Evt.bind (sp b hb) (Evt.pos rfl (Evt.bind (sp c hc) (Evt.ret _))),by rw [im b hb,im c hc];rfl⟩
  ·exact ⟨_,Evt.bind (sp b hb) (Evt.neg (by decide) (Evt.pos rfl (Evt.bind (sp c hc) (Evt.ret _)))),by rw [im b hb,im c hc];rfl⟩
 ·obtain ⟨r,hr⟩:=rxMatch_def d e l (replB (wordOf x y z) b) hn (hsz b hb)
  rcases ha with rfl|rfl
  ·exact ⟨r,Evt.bind (sp b hb) (Evt.neg (by decide) (Evt.neg (by decide) (Evt.pos rfl (Evt.bindc hr (Evt.ret _))))),by rw [im b hb,Option.bind_some,if_neg (show ¬ (3:Int)=1 by decide),if_neg (show ¬ (3:Int)=2 by decide),if_pos rfl,show impl_matches.f d e l (replB (wordOf x y z) b)=some r from hr];rfl⟩
  ·exact ⟨!r,Evt.bind (sp b hb) (Evt.neg (by decide) (Evt.neg (by decide) (Evt.neg (by decide) (Evt.pos rfl (Evt.bindc hr (Evt.ret _)))))),by rw [im b hb,Option.bind_some,if_neg (show ¬ (4:Int)=1 by decide),if_neg (show ¬ (4:Int)=2 by decide),if_neg (show ¬ (4:Int)=3 by decide),if_pos rfl,show impl_matches.f d e l (replB (wordOf x y z) b)=some r from hr];rfl⟩
 ·subst ha
  have h0:(0:Int) < (m.length:Int):=by omega
  have h1:(1:Int) < (m.length:Int):=by omega
  have h2:(2:Int) < (m.length:Int):=by omega
  have hs:spec_l9Sum.f m x y z=some (wrap64 ((wrap64 ((wrap64 ((rd m 0) * (x.size:Int)))+(wrap64 ((rd m 1) * (y.size:Int)))))+(wrap64 ((rd m 2) * (z.size:Int))))):=by
   unfold spec_l9Sum.f
   rw [if_pos h0,if_pos h1,if_pos h2]
  refine ⟨_,Evt.bind (sp b hb) (Evt.neg (by decide) (Evt.neg (by decide) (Evt.neg (by decide) (Evt.neg (by decide) (Evt.bindc hs (Evt.ret _)))))),?_⟩
  rw [im b hb,Option.bind_some,if_neg (show ¬ (5:Int)=1 by decide),if_neg (show ¬ (5:Int)=2 by decide),if_neg (show ¬ (5:Int)=3 by decide),if_neg (show ¬ (5:Int)=4 by decide),if_pos h0,if_pos h1,if_pos h2]
end
theorem csL_at (l:List S103) (i:Nat) (h:i < l.length):rd_T103 l (i:Int)=l[i]:=by simp [rd_T103,h]
theorem csI_at (l:List S67) (i:Nat) (h:i < l.length):rd_T67 l (i:Int)=l[i]:=by simp [rd_T67,h]
theorem rxL_eta (y:S101):(⟨y.f0,y.f1,y.f2⟩:S101)=y:=by cases y;rfl
def CsOk (x:S103):Prop:=x.f1.size≤9223372036854775807∧x.f2.size≤9223372036854775807∧(∃ n,RxOk n x.f3)∧x.f4.length≤9223372036854775807
def CsSm (y:S67):Prop:=Sm y.f3∧y.f4.length≤1048576∧y.f1.size≤1048576∧y.f2.size≤1048576
def CpK (x:S103) (y:S67):Prop:=CsSm y∧Evt (fun k=>laws_toConstraint.f k x.f0 x.f1 x.f2 x.f3.f0 x.f3.f1 x.f3.f2 x.f4 x.f5) (y.f0,y.f1,y.f2,y.f3.f0,y.f3.f1,y.f3.f2,y.f4,y.f5)
theorem csI_eta (y:S67):(⟨y.f0,y.f1,y.f2,(⟨y.f3.f0,y.f3.f1,y.f3.f2⟩:S65),y.f4,y.f5⟩:S67)=y:=by
 have h:=rx_eta y.f3
 rw [h]
theorem szCs_ev (x:S103) (h:CsOk x) (v:Int) (hv:0≤v) (hv':v≤1048576):∃ t,Evt (fun k=>laws_szConstraint.f k x.f0 x.f1 x.f2 x.f3.f0 x.f3.f1 x.f3.f2 x.f4 x.f5 v) t∧(t = -1∨(0≤t∧t≤v∧∃ y,CpK x y)):=by
 obtain ⟨h1,h2,⟨N,h3⟩,h4⟩:=h
 by_cases c1:v - x.f1.size < 0
 ·refine ⟨-1,?_,.inl rfl⟩
  simp only [laws_szConstraint.f]
  rw [w64_sub (by omega) (by omega) h1]
  exact Evt.pos c1 (Evt.ret _)
 by_cases c2:v - x.f1.size - x.f2.size < 0
 ·refine ⟨-1,?_,.inl rfl⟩
  simp only [laws_szConstraint.f]
  rw [w64_sub (by omega) (by omega) h1,w64_sub (by omega) (by omega) h2]
  exact Evt.neg c1 (Evt.pos c2 (Evt.ret _))
 obtain ⟨t,ht,hc⟩:=szConstraint_ev x.f0 x.f1 x.f2 x.f3.f0 x.f3.f1 x.f3.f2 x.f4 x.f5 N v hv hv' h1 h2 (by rw [rxL_eta];exact h3) h4
 refine ⟨t,ht,hc.imp id ?_⟩
 rintro ⟨g1,g2,y,y1,y2,y3⟩
 exact ⟨g1,g2,⟨x.f0,x.f1,x.f2,⟨x.f3.f0,x.f3.f1,y⟩,x.f4,x.f5⟩,⟨y1,y2,show x.f1.size≤1048576 by omega,show x.f2.size≤1048576 by omega⟩,y3⟩
theorem copiesK (l:List S103) (h:∀ x ∈ l,∃ y,CpK x y):∃ ys:List S67,ys.length=l.length∧∀ (i:Nat) (h:i < l.length) (h':i < ys.length),CpK l[i] ys[i]:=by
 induction l with
 | nil=>exact ⟨[],rfl,fun i h=>absurd h (by simp)⟩
 | cons x l ih =>
  obtain ⟨y,hy⟩:=h x (by simp)
  obtain ⟨ys,h1,h2⟩:=ih (fun z hz=>h z (by simp [hz]))
  refine ⟨y :: ys,by simp [h1],fun i hi hi' => ?_⟩
  cases i with
  | zero=>exact hy
  | succ i=>exact h2 i (by simpa using hi) (by simpa using hi')
def CpL (l:List S103) (ys:List S67):Prop:=ys.length≤1048576∧(∀ y ∈ ys,CsSm y)∧Evt (fun k=>laws_toConstraintS.f k l) ys
theorem toCsS_ev (l:List S103) (hl:l.length≤1048576) (h:∀ x ∈ l,∃ y,CpK x y):∃ ys,CpL l ys:=by
 obtain ⟨ys,e,hc⟩:=copiesK l h
 refine ⟨ys,by omega,fun y hy=>?_,?_⟩
 ·obtain ⟨i,hi,rfl⟩:=List.mem_iff_getElem.1 hy
  exact (hc i (by omega) hi).1
 ·simp only [laws_toConstraintS.f]
  refine Evt.pos (by omega) (Evt.pos (by omega) ?_)
  rw [Int.toNat_natCast]
  have hh:∀ d i:Nat,i+d=l.length→Evt (fun k=>laws_toConstraintS.l0 k l (ys.take i ++ List.replicate (l.length - i) z67) (i:Int)) ys:=by
   intro d
   induction d with
   | zero =>
    intro i hi
    refine Evt.step ?_
    simp only [laws_toConstraintS.l0]
    refine Evt.neg (by omega) ((Evt.ret _).cast ?_)
    rw [show l.length - i=0 by omega,List.take_of_length_le (by omega)]
    simp
   | succ d ih =>
    intro i hi
    have hi':i < l.length:=by omega
    refine Evt.step ?_
    simp only [laws_toConstraintS.l0]
    rw [csL_at l i hi']
    refine Evt.pos (by omega) (Evt.pos (by omega) (Evt.bind (hc i hi' (by omega)).2 (Evt.pos (by simp;omega) ?_)))
    rw [Int.toNat_natCast,w64s (by omega)]
    have hx:(ys.take i).length=i:=by rw [List.length_take];omega
    have e2:(ys.take i ++ List.replicate (l.length - i) z67).set i (ys[i]'(by omega))=ys.take (i+1) ++ List.replicate (l.length - (i+1)) z67:=by
     rw [List.set_append_right _ _ (by omega),hx,Nat.sub_self,show l.length - i=(l.length - (i+1))+1 by omega,List.replicate_succ,List.set_cons_zero,List.take_succ_eq_append_getElem (by omega),List.append_assoc]
     rfl
    simp only [csI_eta,e2]
    exact ih (i+1) (by omega)
  simpa using hh l.length 0 (by omega)
theorem szCsS_ev (l:List S103) (hl:l.length≤9223372036854775807) (h:∀ x ∈ l,CsOk x) (v:Int) (hv:0≤v) (hv':v≤1048576):∃ t,Evt (fun k=>laws_szConstraintS.f k l v) t∧(t = -1∨(0≤t∧t≤v∧∃ ys,CpL l ys)):=by
 simp only [laws_szConstraintS.f]
 rw [w64_sub (by omega) hv' hl]
 by_cases h1:v - l.length < 0
 ·exact ⟨-1,Evt.pos h1 (Evt.ret _),.inl rfl⟩
 have hh:∀ d i:Nat,i+d=l.length→∀ b:Int,0≤b→b≤1048576→∃ t,Evt (fun k=>laws_szConstraintS.l0 k l b (i:Int)) t∧(t = -1∨(0≤t∧t≤b∧∀ x ∈ l.drop i,∃ y,CpK x y)):=by
  intro d
  induction d with
  | zero =>
   intro i hi b hb hb'
   refine ⟨b,Evt.step ?_,.inr ⟨hb,Int.le_refl _,?_⟩⟩
   ·simp only [laws_szConstraintS.l0]
    exact Evt.neg (by omega) (Evt.ret _)
   ·rw [List.drop_of_length_le (by omega)]
    intro x hx
    cases hx
  | succ d ih =>
   intro i hi b hb hb'
   have hi':i < l.length:=by omega
   obtain ⟨t,ht,hc⟩:=szCs_ev l[i] (h _ (List.getElem_mem hi')) b hb hb'
   by_cases h2:t < 0
   ·refine ⟨-1,Evt.step ?_,.inl rfl⟩
    simp only [laws_szConstraintS.l0]
    rw [csL_at l i hi']
    exact Evt.pos (by omega) (Evt.pos (by omega) (Evt.bind ht (Evt.pos h2 (Evt.ret _))))
   ·have hc':=hc.resolve_left (by omega)
    obtain ⟨t',ht',hc2⟩:=ih (i+1) (by omega) t (by omega) (by omega)
    refine ⟨t',Evt.step ?_,?_⟩
    ·simp only [laws_szConstraintS.l0]
     rw [csL_at l i hi',w64s (by omega)]
     exact Evt.pos (by omega) (Evt.pos (by omega) (Evt.bind ht (Evt.neg h2 ht')))
    ·rcases hc2 with h3|⟨h3,h4,h5⟩
     ·exact .inl h3
     ·refine .inr ⟨h3,by omega,?_⟩
      rw [List.drop_eq_getElem_cons hi']
      intro x hx
      rcases List.mem_cons.1 hx with rfl|hx
      ·exact hc'.2.2
      ·exact h5 x hx
 obtain ⟨t,ht,hc⟩:=hh l.length 0 (by omega) (v - l.length) (by omega) (by omega)
 refine ⟨t,Evt.neg h1 ht,hc.imp id ?_⟩
 rintro ⟨g1,g2,g3⟩
 exact ⟨g1,by omega,toCsS_ev l (by omega) (by simpa using g3)⟩
theorem eqCsS_ev (ys:List S67) (hl:ys.length≤1048576) (h:∀ y ∈ ys,CsSm y):Evt (fun k=>laws_eqConstraintS.f k ys ys) true:=by
 simp only [laws_eqConstraintS.f]
 refine Evt.pos trivial ?_
 have hh:=Evt.up (fun k i=>laws_eqConstraintS.l0 k ys ys i) ys.length (fun _=>true) ?_ ?_
 ·exact hh
 ·refine Evt.step ?_
  simp only [laws_eqConstraintS.l0]
  exact Evt.neg (by omega) (Evt.ret _)
 ·intro i hi ih
  refine Evt.step ?_
  simp only [laws_eqConstraintS.l0]
  rw [csI_at ys i hi,w64s (by omega)]
  obtain ⟨g1,g2,_,_⟩:=h _ (List.getElem_mem hi)
  exact Evt.pos (by omega) (Evt.pos (by omega) (Evt.pos (by omega) (Evt.bind (eqConstraint_ev _ _ _ _ _ _ _ _ (by rw [rx_eta];exact g1) g2) (Evt.pos rfl ih))))
theorem szProblem_ev (l:List S103) (hl:l.length≤9223372036854775807) (h:∀ x ∈ l,CsOk x) (v:Int) (hv:0≤v) (hv':v≤1048576):∃ t,Evt (fun k=>laws_szProblem.f k l v) t∧(t = -1∨(0≤t∧t≤v∧∃ ys,CpL l ys)):=by
 obtain ⟨t,ht,hc⟩:=szCsS_ev l hl h v hv hv'
 simp only [laws_szProblem.f]
 rcases hc with rfl|⟨h0,h1,h2⟩
 ·exact ⟨-1,Evt.bind ht (Evt.pos (by decide) (Evt.ret _)),.inl rfl⟩
 ·exact ⟨t,Evt.bind ht (Evt.neg (by omega) (Evt.ret _)),.inr ⟨h0,h1,h2⟩⟩
theorem toProblem_ev {l:List S103} {ys:List S67} (h:CpL l ys):Evt (fun k=>laws_toProblem.f k l) ys:=by
 simp only [laws_toProblem.f]
 exact Evt.bind h.2.2 (Evt.ret _)
theorem eqProblem_ev {l:List S103} {ys:List S67} (h:CpL l ys):Evt (fun k=>laws_eqProblem.f k ys ys) true:=by
 simp only [laws_eqProblem.f]
 exact Evt.bind (eqCsS_ev ys h.1 h.2.1) (Evt.pos rfl (Evt.ret _))
section
variable {a : Int} {b c : ByteArray} {d : Int} {e : ByteArray} {l : List S65} {m : List Int} {n : Int}
theorem valC_bounds (h:valC a b c d e l m n=true):m.length≤3∧b.size≤12∧c.size≤12:=by
 unfold valC valX at h
 split at h
 ·simp only [isTm,Bool.and_eq_true,decide_eq_true_eq,beq_iff_eq] at h
  obtain ⟨⟨_,h1⟩,⟨_,h2⟩,_,h4,_⟩:=h
  omega
 ·split at h
  ·simp only [isTm,Bool.and_eq_true,decide_eq_true_eq,beq_iff_eq] at h
   obtain ⟨⟨_,h1⟩,h2,_,h4,_⟩:=h
   omega
  ·split at h
   ·simp only [Bool.and_eq_true,decide_eq_true_eq,beq_iff_eq] at h
    obtain ⟨h1,h2,_,⟨_,h4⟩,_⟩:=h
    omega
   ·cases h
def catV:List Int→Nat→ByteArray→ByteArray
 | [],_,acc=>acc
 | q :: m,i,acc=>catV m (i+1) (if q=0 then acc else acc ++ (⟨#[88,89,90]⟩:ByteArray).extract ((i:Nat):Int).toNat ((i+1:Nat):Int).toNat)
def varsC (a:Int) (b c:ByteArray) (d:Int) (e:ByteArray) (l:List S65) (m:List Int) (n:Int):ByteArray :=
 if valC a b c d e l m n=true then varsB (catV m 0 (b ++ c)) else (⟨#[]⟩:ByteArray)
theorem spec_VarsOfConstraint_ev (hb:b.size≤9223372036854775807) (hc:c.size≤9223372036854775807) (hr:Sm ⟨d,e,l⟩) (hm:m.length≤1048576):Evt (fun k=>spec_VarsOfConstraint.f k a b c d e l m n) (varsC a b c d e l m n):=by
 simp only [spec_VarsOfConstraint.f]
 unfold varsC
 refine Evt.bind (spec_IsValidConstraint_ev hb hc hr hm) ?_
 cases hv:valC a b c d e l m n with
 | false=>exact Evt.neg (by decide) (Evt.ret _)
 | true =>
  obtain ⟨g1,g2,g3⟩:=valC_bounds hv
  refine Evt.pos rfl (Evt.pos (by omega) ?_)
  have hh:∀ j i:Nat,i+j=m.length→∀ acc:ByteArray,acc.size≤100+i→Evt (fun k=>spec_VarsOfConstraint.l0 k acc (i:Int) a b c d e l m n) (varsB (catV (m.drop i) i acc)):=by
   intro j
   induction j with
   | zero =>
    intro i hi acc ha
    refine Evt.step ?_
    simp only [spec_VarsOfConstraint.l0]
    rw [List.drop_of_length_le (by omega)]
    exact Evt.neg (by omega) (Evt.bind (spec_VarsOf_ev acc (by omega)) (Evt.ret _))
   | succ j ih =>
    intro i hi acc ha
    have hi':i < m.length:=by omega
    have hx:=ext_size (i:Int) (by omega) (by omega)
    refine Evt.step ?_
    simp only [spec_VarsOfConstraint.l0]
    rw [List.drop_eq_getElem_cons hi',rdI_at m i hi',w64s (by omega)]
    refine Evt.pos (by omega) (Evt.pos (by omega) ?_)
    simp only [catV]
    by_cases hq:m[i]=0
    ·rw [if_pos hq]
     exact Evt.pos hq (ih (i+1) (by omega) acc (by omega))
    ·rw [if_neg hq]
     have hs:((⟨#[88,89,90]⟩:ByteArray).extract ((i:Nat):Int).toNat ((i+1:Nat):Int).toNat).size=1:=by
      rw [show ((i+1:Nat):Int)=(i:Int)+1 by omega,hx]
     refine Evt.neg hq (Evt.pos (by omega) (Evt.pos (by omega) (Evt.pos (by rw [hs];omega) ?_)))
     exact ih (i+1) (by omega) _ (by rw [ByteArray.size_append,hs];omega)
  have:=hh m.length 0 (by omega) (b ++ c) (by rw [ByteArray.size_append];omega)
  rw [if_pos rfl]
  simpa using this
theorem impl_VarsOfConstraint_ev (hm:m.length≤1048576):Evt (fun k=>impl_VarsOfConstraint.f k a b c d e l m n) (varsC a b c d e l m n):=by
 simp only [impl_VarsOfConstraint.f]
 unfold varsC
 refine Evt.bind (impl_IsValidConstraint_ev hm) ?_
 cases hv:valC a b c d e l m n with
 | false=>exact Evt.neg (by decide) (Evt.ret _)
 | true =>
  obtain ⟨g1,g2,g3⟩:=valC_bounds hv
  refine Evt.pos rfl (Evt.pos (by omega) ?_)
  have hh:∀ j i:Nat,i+j=m.length→∀ acc:ByteArray,acc.size≤100+i→Evt (fun k=>impl_VarsOfConstraint.l0 k acc m (m.length:Int) (i:Int)) (varsB (catV (m.drop i) i acc)):=by
   intro j
   induction j with
   | zero =>
    intro i hi acc ha
    refine Evt.step ?_
    simp only [impl_VarsOfConstraint.l0]
    rw [List.drop_of_length_le (by omega)]
    exact Evt.neg (by omega) (Evt.bind (impl_VarsOf_ev acc) (Evt.ret _))
   | succ j ih =>
    intro i hi acc ha
    have hi':i < m.length:=by omega
    have hx:=ext_size (i:Int) (by omega) (by omega)
    refine Evt.step ?_
    simp only [impl_VarsOfConstraint.l0]
    rw [List.drop_eq_getElem_cons hi',rdI_at m i hi',w64s (by omega)]
    refine Evt.pos (by omega) (Evt.pos (by omega) (Evt.pos (by omega) ?_))
    simp only [catV]
    by_cases hq:m[i]=0
    ·rw [if_pos hq]
     exact Evt.pos hq (ih (i+1) (by omega) acc (by omega))
    ·rw [if_neg hq]
     have hs:((⟨#[88,89,90]⟩:ByteArray).extract ((i:Nat):Int).toNat ((i+1:Nat):Int).toNat).size=1:=by
      rw [show ((i+1:Nat):Int)=(i:Int)+1 by omega,hx]
     refine Evt.neg hq (Evt.pos (by omega) (Evt.pos (by omega) (Evt.pos (by rw [hs];omega) ?_)))
     exact ih (i+1) (by omega) _ (by rw [ByteArray.size_append,hs];omega)
  have:=hh m.length 0 (by omega) (b ++ c) (by rw [ByteArray.size_append];omega)
  rw [if_pos rfl]
  simpa using this
end
theorem vr_size (p:Int→Bool) (n:Nat):∀ (i:Int) (acc:ByteArray),0≤i→i+n=3→(vr p n i acc).size≤acc.size+n:=by
 induction n with
 | zero=>intro i acc _ _;exact Nat.le_refl _
 | succ n ih =>
  intro i acc h0 hi
  have hx:=ext_size i h0 (by omega)
  unfold vr
  split
  ·have:=ih (i+1) (acc ++ ((⟨#[88,89,90]⟩:ByteArray).extract (i:Int).toNat ((i+1):Int).toNat)) (by omega) (by omega)
   rw [ByteArray.size_append,hx] at this
   omega
  ·have:=ih (i+1) acc (by omega) (by omega)
   omega
theorem varsB_size (s:ByteArray):(varsB s).size≤3:=by
 have:=vr_size (fun c=>decide (c ∈ bytesOf s)) 3 0 (⟨#[]⟩:ByteArray) (by omega) (by omega)
 have e:(⟨#[]⟩:ByteArray).size=0:=rfl
 unfold varsB
 omega
def valK (y:S67):Bool:=valC y.f0 y.f1 y.f2 y.f3.f0 y.f3.f1 y.f3.f2 y.f4 y.f5
def varsK (y:S67):ByteArray:=varsC y.f0 y.f1 y.f2 y.f3.f0 y.f3.f1 y.f3.f2 y.f4 y.f5
def valP (ys:List S67):Bool:=ys.all valK && decide ((ys.length:Int)≤6)
theorem varsK_size (y:S67):(varsK y).size≤3:=by
 unfold varsK varsC
 split
 ·exact varsB_size _
 ·exact Nat.zero_le _
theorem spec_IsValidProblem_ev (ys:List S67) (hl:ys.length≤1048576) (h:∀ y ∈ ys,CsSm y):Evt (fun k=>spec_IsValidProblem.f k ys) (valP ys):=by
 have hh:=Evt.up (fun k i=>spec_IsValidProblem.l0 k i ys) ys.length (fun i=>(ys.drop i).all valK && decide ((ys.length:Int)≤6)) ?_ ?_
 ·simpa [spec_IsValidProblem.f,valP] using hh
 ·refine Evt.step ?_
  simp only [spec_IsValidProblem.l0]
  rw [List.drop_of_length_le (by omega)]
  exact Evt.neg (by omega) ((Evt.ret _).cast (by simp))
 ·intro i hi hn
  obtain ⟨g1,g2,g3,g4⟩:=h _ (List.getElem_mem hi)
  have hv:=spec_IsValidConstraint_ev (a:=ys[i].f0) (d:=ys[i].f3.f0) (n:=ys[i].f5) (Nat.le_trans g3 (by decide)) (Nat.le_trans g4 (by decide)) (by rw [rx_eta];exact g1) g2
  refine Evt.step ?_
  simp only [spec_IsValidProblem.l0]
  rw [csI_at ys i hi,w64s (by omega),List.drop_eq_getElem_cons hi,List.all_cons]
  refine Evt.pos (by omega) (Evt.pos (by omega) (Evt.bind hv ?_))
  change Evt (fun k=>if valK ys[i]=true then _ else _) _
  cases valK ys[i] with
  | true=>exact Evt.pos rfl (hn.cast (by simp))
  | false=>exact Evt.neg (by decide) ((Evt.ret _).cast (by simp))
theorem anyO_cons (f:S67→Option Bool) (c:S67) (l:List S67) (p q:Bool) (h:f c=some p) (h':anyO f l=some q):anyO f (c :: l)=some (p || q):=by
 unfold anyO at h' ⊢
 split at h'
 ·next ha =>
  rw [if_pos (by rw [List.all_cons,h,ha];rfl),List.any_cons,h,Option.some.inj h']
  cases p <;> rfl
 ·cases h'
theorem anyO_ev {f:Nat→S67→Option Bool} {p:S67→Bool} : ∀ (l:List S67),(∀ c ∈ l,Evt (fun k=>f k c) (p c))→Evt (fun k=>anyO (f k) l) (l.any p):=by
 intro l
 induction l with
 | nil=>intro _;exact Evt.const rfl
 | cons c l ih =>
  intro h
  obtain ⟨K1,h1⟩:=h c (by simp)
  obtain ⟨K2,h2⟩:=ih fun c hc=>h c (by simp [hc])
  exact ⟨max K1 K2,fun k hk=>anyO_cons (f k) c l _ _ (h1 k (by omega)) (h2 k (by omega))⟩
theorem impl_IsValidProblem_ev (ys:List S67) (hl:ys.length≤1048576) (h:∀ y ∈ ys,CsSm y):Evt (fun k=>impl_IsValidProblem.f k ys) (valP ys):=by
 unfold impl_IsValidProblem.f valP
 by_cases h6:ys.length≤6
 ·refine Evt.pos h6 (Evt.bind (anyO_ev (p:=fun y => !valK y) ys fun y hy=>?_) ((Evt.ret _).cast ?_))
  ·obtain ⟨g1,g2,g3,g4⟩:=h y hy
   have hv:Evt (fun k=>impl_IsValidConstraint.f k y.f0 y.f1 y.f2 y.f3.f0 y.f3.f1 y.f3.f2 y.f4 y.f5) (valK y):=impl_IsValidConstraint_ev g2
   unfold notValid
   exact Evt.bind hv (Evt.ret _)
  ·rw [show decide ((ys.length:Int)≤6)=true from decide_eq_true (by omega),Bool.and_true]
   clear h hl h6
   induction ys with
   | nil=>rfl
   | cons y ys ih=>rw [List.any_cons,List.all_cons,Bool.not_or,ih,Bool.not_not]
 ·exact Evt.neg h6 ((Evt.ret _).cast (by simp;omega))
def catP:List S67→ByteArray→ByteArray
 | [],acc=>acc
 | y :: ys,acc=>catP ys (acc ++ varsK y)
def varsP (ys:List S67):ByteArray:=if valP ys=true then varsB (catP ys (⟨#[]⟩:ByteArray)) else (⟨#[]⟩:ByteArray)
theorem varsP_size (ys:List S67):(varsP ys).size≤3:=by
 unfold varsP
 split
 ·exact varsB_size _
 ·exact Nat.zero_le _
theorem varsB_nil:varsB (⟨#[]⟩:ByteArray)=(⟨#[]⟩:ByteArray):=by decide
theorem valP_len {ys:List S67} (h:valP ys=true):ys.length≤6:=by
 unfold valP at h
 simp at h
 omega
theorem impl_VarsOfProblem_ev (ys:List S67) (hl:ys.length≤1048576) (h:∀ y ∈ ys,CsSm y):Evt (fun k=>impl_VarsOfProblem.f k ys) (varsP ys):=by
 simp only [impl_VarsOfProblem.f]
 unfold varsP
 refine Evt.bind (impl_IsValidProblem_ev ys hl h) ?_
 cases hv:valP ys with
 | false=>exact Evt.neg (by decide) (Evt.ret _)
 | true =>
  have h6:=valP_len hv
  refine Evt.pos rfl ?_
  rw [if_pos rfl]
  have hh:∀ d i:Nat,i+d=ys.length→∀ acc:ByteArray,acc.size≤3 * i→Evt (fun k=>impl_VarsOfProblem.l0 k acc ys (ys.length:Int) (i:Int)) (varsB (catP (ys.drop i) acc)):=by
   intro d
   induction d with
   | zero =>
    intro i hi acc ha
    refine Evt.step ?_
    simp only [impl_VarsOfProblem.l0]
    rw [List.drop_of_length_le (by omega)]
    exact Evt.neg (by omega) (Evt.bind (impl_VarsOf_ev acc) (Evt.ret _))
   | succ d ih =>
    intro i hi acc ha
    have hi':i < ys.length:=by omega
    obtain ⟨g1,g2,g3,g4⟩:=h _ (List.getElem_mem hi')
    have hv:Evt (fun k=>impl_VarsOfConstraint.f k ys[i].f0 ys[i].f1 ys[i].f2 ys[i].f3.f0 ys[i].f3.f1 ys[i].f3.f2 ys[i].f4 ys[i].f5) (varsK ys[i]):=impl_VarsOfConstraint_ev g2
    have hs:=varsK_size ys[i]
    refine Evt.step ?_
    simp only [impl_VarsOfProblem.l0]
    rw [csI_at ys i hi',w64s (by omega),List.drop_eq_getElem_cons hi']
    exact Evt.pos (by omega) (Evt.pos (by omega) (Evt.pos (by omega) (Evt.bind hv (Evt.pos (by omega) (ih (i+1) (by omega) _ (by rw [ByteArray.size_append];omega))))))
  exact hh ys.length 0 (by omega) _ (Nat.zero_le _)
theorem spec_VarsOfProblem_ev (ys:List S67) (hl:ys.length≤1048576) (h:∀ y ∈ ys,CsSm y):Evt (fun k=>spec_VarsOfProblem.f k ys) (varsP ys):=by
 simp only [spec_VarsOfProblem.f]
 unfold varsP
 have hp:=spec_IsValidProblem_ev ys hl h
 cases hv:valP ys with
 | false =>
  refine Evt.step ?_
  simp only [spec_VarsOfProblem.l0]
  have hn:0 < ys.length:=by
   cases ys with
   | nil=>simp [valP] at hv
   | cons y ys=>simp
  rw [hv] at hp
  exact Evt.pos (by omega) (Evt.bind hp (Evt.neg (by decide) (Evt.bind (spec_VarsOf_ev _ (by decide)) ((Evt.ret _).cast varsB_nil))))
 | true =>
  have h6:=valP_len hv
  rw [hv] at hp
  rw [if_pos rfl]
  have hh:∀ d i:Nat,i+d=ys.length→∀ acc:ByteArray,acc.size≤3 * i→Evt (fun k=>spec_VarsOfProblem.l0 k acc (i:Int) ys) (varsB (catP (ys.drop i) acc)):=by
   intro d
   induction d with
   | zero =>
    intro i hi acc ha
    refine Evt.step ?_
    simp only [spec_VarsOfProblem.l0]
    rw [List.drop_of_length_le (by omega)]
    exact Evt.neg (by omega) (Evt.bind (spec_VarsOf_ev acc (by omega)) (Evt.ret _))
   | succ d ih =>
    intro i hi acc ha
    have hi':i < ys.length:=by omega
    obtain ⟨g1,g2,g3,g4⟩:=h _ (List.getElem_mem hi')
    have hv:Evt (fun k=>spec_VarsOfConstraint.f k ys[i].f0 ys[i].f1 ys[i].f2 ys[i].f3.f0 ys[i].f3.f1 ys[i].f3.f2 ys[i].f4 ys[i].f5) (varsK ys[i]):=spec_VarsOfConstraint_ev (Nat.le_trans g3 (by decide)) (Nat.le_trans g4 (by decide)) (by rw [rx_eta];exact g1) g2
    have hs:=varsK_size ys[i]
    refine Evt.step ?_
    simp only [spec_VarsOfProblem.l0]
    rw [csI_at ys i hi',w64s (by omega),List.drop_eq_getElem_cons hi']
    exact Evt.pos (by omega) (Evt.bind hp (Evt.pos rfl (Evt.pos (by omega) (Evt.bind hv (Evt.pos (by omega) (ih (i+1) (by omega) _ (by rw [ByteArray.size_append];omega)))))))
  exact hh ys.length 0 (by omega) _ (Nat.zero_le _)
def boundP (ys:List S67):Int:=if valP ys=true then (if (varsP ys).size≤1 then 5 else if (varsP ys).size=2 then 3 else 2) else -1
theorem impl_BoundOf_ev (ys:List S67) (hl:ys.length≤1048576) (h:∀ y ∈ ys,CsSm y):Evt (fun k=>impl_BoundOf.f k ys) (boundP ys):=by
 simp only [impl_BoundOf.f]
 unfold boundP
 refine Evt.bind (impl_IsValidProblem_ev ys hl h) ?_
 cases hv:valP ys with
 | false=>exact Evt.neg (by decide) (Evt.ret _)
 | true =>
  have h3:=varsP_size ys
  rw [if_pos rfl]
  refine Evt.pos rfl (Evt.bindc rfl (Evt.bind (impl_VarsOfProblem_ev ys hl h) (Evt.pos (by omega) (Evt.pos (by simp;omega) ((Evt.ret _).cast ?_)))))
  generalize (varsP ys).size=s at *
  match s,h3 with
  | 0,_=>rfl
  | 1,_=>rfl
  | 2,_=>rfl
  | 3,_=>rfl
theorem spec_BoundOf_ev (ys:List S67) (hl:ys.length≤1048576) (h:∀ y ∈ ys,CsSm y):Evt (fun k=>spec_BoundOf.f k ys) (boundP ys):=by
 simp only [spec_BoundOf.f]
 unfold boundP
 refine Evt.bind (spec_IsValidProblem_ev ys hl h) ?_
 cases hv:valP ys with
 | false=>exact Evt.neg (by decide) (Evt.ret _)
 | true =>
  have h3:=varsP_size ys
  rw [if_pos rfl]
  refine Evt.pos rfl (Evt.bind (spec_VarsOfProblem_ev ys hl h) ?_)
  have hj:∀ (s:Nat) (x:Bool),s≤3→(x=true ↔ s≤1)→Evt (fun k=>spec_BoundOf.j0 k (s:Int) x) (if s≤1 then 5 else if s=2 then 3 else 2):=by
   intro s x hs hx
   refine Evt.step ?_
   simp only [spec_BoundOf.j0]
   by_cases h1:s≤1
   ·rw [if_pos h1];exact Evt.pos (hx.2 h1) (Evt.ret _)
   ·rw [if_neg h1]
    refine Evt.neg (fun h=>h1 (hx.1 h)) ?_
    by_cases h2:s=2
    ·rw [if_pos h2];exact Evt.pos (by omega) (Evt.ret _)
    ·rw [if_neg h2];exact Evt.neg (by omega) (Evt.ret _)
  generalize (varsP ys).size=s at *
  by_cases h0:s=0
  ·subst h0;exact Evt.pos rfl (hj 0 _ (by omega) (by simp))
  ·refine Evt.neg (by omega) (hj s _ h3 ?_)
   simp;omega
def clr (vs x y z:ByteArray):ByteArray × ByteArray × ByteArray:=(if 88 ∈ bytesOf vs then x else (⟨#[]⟩:ByteArray),if 89 ∈ bytesOf vs then y else (⟨#[]⟩:ByteArray),if 90 ∈ bytesOf vs then z else (⟨#[]⟩:ByteArray))
theorem impl_cleared_ev (vs x y z:ByteArray):Evt (fun k=>impl_cleared.f k x y z vs) (clr vs x y z):=by
 simp only [impl_cleared.f]
 have h3:∀ x y z,Evt (fun k=>impl_cleared.l0 k vs 3 x y z) (x,y,z):=fun x y z=>by
  refine Evt.step ?_
  simp only [impl_cleared.l0]
  exact Evt.neg (by decide) (Evt.ret _)
 have h2:∀ x y z,Evt (fun k=>impl_cleared.l0 k vs 2 x y z) (x,y,if 90 ∈ bytesOf vs then z else (⟨#[]⟩:ByteArray)):=fun x y z=>by
  refine Evt.step ?_
  simp only [impl_cleared.l0,bt_XYZ2,w64_3]
  refine Evt.pos (by decide) (Evt.pos (by decide) (Evt.bindc rfl ?_))
  have e:=ib_nonneg vs (c:=90) (by decide) (by decide)
  by_cases hc:(90:Int) ∈ bytesOf vs
  ·rw [if_pos hc]
   exact Evt.neg (by have:=e.2 hc;omega) (h3 _ _ _)
  ·rw [if_neg hc]
   exact Evt.pos (by have:=mt e.1 hc;omega) (Evt.bindc rfl (h3 _ _ _))
 have h1:∀ x y z,Evt (fun k=>impl_cleared.l0 k vs 1 x y z) (x,if 89 ∈ bytesOf vs then y else (⟨#[]⟩:ByteArray),if 90 ∈ bytesOf vs then z else (⟨#[]⟩:ByteArray)):=fun x y z=>by
  refine Evt.step ?_
  simp only [impl_cleared.l0,bt_XYZ1,w64_2]
  refine Evt.pos (by decide) (Evt.pos (by decide) (Evt.bindc rfl ?_))
  have e:=ib_nonneg vs (c:=89) (by decide) (by decide)
  by_cases hc:(89:Int) ∈ bytesOf vs
  ·rw [if_pos hc]
   exact Evt.neg (by have:=e.2 hc;omega) (h2 _ _ _)
  ·rw [if_neg hc]
   exact Evt.pos (by have:=mt e.1 hc;omega) (Evt.bindc rfl (h2 _ _ _))
 refine Evt.step ?_
 simp only [impl_cleared.l0,bt_XYZ0,w64_1]
 refine Evt.pos (by decide) (Evt.pos (by decide) (Evt.bindc rfl ?_))
 have e:=ib_nonneg vs (c:=88) (by decide) (by decide)
 unfold clr
 by_cases hc:(88:Int) ∈ bytesOf vs
 ·rw [if_pos hc]
  exact Evt.neg (by have:=e.2 hc;omega) (h1 _ _ _)
 ·rw [if_neg hc]
  exact Evt.pos (by have:=mt e.1 hc;omega) (Evt.bindc rfl (h1 _ _ _))
def hldB (x y z:ByteArray) (c:S67):Bool:=impl_holds.f c.f0 c.f1 c.f2 c.f3.f0 c.f3.f1 c.f3.f2 c.f4 c.f5 x y z == some true
theorem Evt.same {α:Type} {g:Nat→Option α} {a b:α} (h:Evt g a) (h':Evt g b):a=b:=by
 obtain ⟨K,h⟩:=h
 obtain ⟨L,h'⟩:=h'
 exact Option.some.inj ((h (max K L) (by omega)).symm.trans (h' (max K L) (by omega)))
theorem holds_use {x y z:ByteArray} (hw:isVs x y z=true) (c:S67) (hv:valK c=true):impl_holds.f c.f0 c.f1 c.f2 c.f3.f0 c.f3.f1 c.f3.f2 c.f4 c.f5 x y z=some (hldB x y z c):=by
 obtain ⟨r,_,h2⟩:=holds_ev (a:=c.f0) (b:=c.f1) (c:=c.f2) (d:=c.f3.f0) (e:=c.f3.f1) (l:=c.f3.f2) (m:=c.f4) (n:=c.f5) hv hw
 unfold hldB
 rw [h2]
 cases r <;> rfl
theorem valP_all {ys:List S67} (h:valP ys=true):∀ c ∈ ys,valK c=true:=by
 unfold valP at h
 rw [Bool.and_eq_true,List.all_eq_true] at h
 exact h.1
def mdl (ys:List S67) (x y z:ByteArray):Bool:=valP ys && (isVs x y z && (decide (clr (varsP ys) x y z=(x,y,z)) && ys.all (hldB x y z)))
theorem impl_IsModel_ev {x y z:ByteArray} (hx:x.size≤9223372036854775807) (hy:y.size≤9223372036854775807) (hz:z.size≤9223372036854775807) (ys:List S67) (hl:ys.length≤1048576) (h:∀ y ∈ ys,CsSm y):Evt (fun k=>impl_IsModel.f k ys x y z) (mdl ys x y z):=by
 unfold impl_IsModel.f mdl
 refine and_ev (impl_IsValidProblem_ev ys hl h) fun hv=>and_ev (impl_IsValues_ev x y z hx hy hz) fun hw=>Evt.bind (impl_VarsOfProblem_ev ys hl h) (Evt.bind (impl_cleared_ev _ x y z) ?_)
 by_cases hc:clr (varsP ys) x y z=(x,y,z)
 ·rw [decide_eq_true hc,Bool.true_and]
  refine Evt.pos hc (Evt.bind (anyO_ev (p:=fun c => !hldB x y z c) ys fun c hq=>?_) ((Evt.ret _).cast ?_))
  ·unfold notHolds
   exact Evt.bindc (holds_use hw c (valP_all hv c hq)) (Evt.ret _)
  ·clear hc hv h hl
   induction ys with
   | nil=>rfl
   | cons y ys ih=>rw [List.any_cons,List.all_cons,Bool.not_or,ih,Bool.not_not]
 ·rw [decide_eq_false hc,Bool.false_and]
  exact Evt.neg hc (Evt.ret _)
theorem Evt.of_mono {α:Type} {g:Nat→Option α} (hm:∀ k,LeO (g k) (g (k+1))) {K:Nat} {r:α} (h:g K=some r):Evt g r:=by
 refine ⟨K,fun k hk=>?_⟩
 obtain ⟨d,rfl⟩:∃ d,k=K+d:=⟨k - K,by omega⟩
 clear hk
 induction d with
 | zero=>exact h
 | succ d ih=>exact hm _ r ih
def wordsOk (n:Int):Bool:=match impl_WordsUpTo.f 3000 n,spec_WordsUpTo.f 3000 n with
 | some a,some b=>decide (a=b) && (a.all isW && (decide (a.length≤400) && decide (0 < a.length)))
 | _,_=>false
theorem words_ok:([0,1,2,3,4,5]:List Int).all wordsOk=true:=by decide +kernel
theorem words_ev {n:Int} (h0:0≤n) (h5:n≤5):∃ ws:List ByteArray,Evt (fun k=>impl_WordsUpTo.f k n) ws∧Evt (fun k=>spec_WordsUpTo.f k n) ws∧(∀ w ∈ ws,isW w=true)∧ws.length≤400∧0 < ws.length:=by
 have hn:n ∈ ([0,1,2,3,4,5]:List Int):=by
  have:n=0∨n=1∨n=2∨n=3∨n=4∨n=5:=by omega
  simpa using this
 have h:=List.all_eq_true.1 words_ok n hn
 unfold wordsOk at h
 cases ha:impl_WordsUpTo.f 3000 n with
 | none=>rw [ha] at h;simp at h
 | some a =>
  cases hb:spec_WordsUpTo.f 3000 n with
  | none=>rw [ha,hb] at h;simp at h
  | some b =>
   rw [ha,hb] at h
   simp only [Bool.and_eq_true,List.all_eq_true,decide_eq_true_eq] at h
   obtain ⟨rfl,h1,h2,h3⟩:=h
   exact ⟨a,Evt.of_mono (fun k=>impl_WordsUpTo.mono n k) ha,Evt.of_mono (fun k=>spec_WordsUpTo.mono n k) hb,h1,h2,h3⟩
def setv (c:Int) (w x y z:ByteArray):ByteArray × ByteArray × ByteArray:=if c=88 then (w,y,z) else if c=89 then (x,w,z) else if c=90 then (x,y,w) else (x,y,z)
theorem impl_WithValue_eq (x y z:ByteArray) (c:Int) (w:ByteArray):impl_WithValue.f x y z c w=some (setv c w x y z):=by
 unfold impl_WithValue.f setv
 repeat' split
 all_goals rfl
theorem spec_WithValue_eq (x y z:ByteArray) (c:Int) (w:ByteArray):spec_WithValue.f x y z c w=some (setv c w x y z):=by
 unfold spec_WithValue.f setv
 repeat' split
 all_goals rfl
def srch (ps:List S67) (ws:List ByteArray):List Int→ByteArray→ByteArray→ByteArray→List S32→List S32
 | [],x,y,z,out=>if ps.all (hldB x y z)=true then out ++ [⟨x,y,z⟩] else out
 | c :: cs,x,y,z,out=>ws.foldl (fun o w=>srch ps ws cs (setv c w x y z).1 (setv c w x y z).2.1 (setv c w x y z).2.2 o) out
theorem fold_le {α:Type} (f:List α→ByteArray→List α) (m:Nat) (hf:∀ o w,(f o w).length≤o.length+m) (ws:List ByteArray):∀ o,(ws.foldl f o).length≤o.length+ws.length * m:=by
 induction ws with
 | nil=>intro o;simp
 | cons w ws ih =>
  intro o
  have h1:=hf o w
  have h2:=ih (f o w)
  rw [List.foldl_cons,List.length_cons,Nat.succ_mul]
  omega
theorem srch_le (ps:List S67) (ws:List ByteArray):∀ (cs:List Int) (x y z:ByteArray) (out:List S32),(srch ps ws cs x y z out).length≤out.length+ws.length ^ cs.length:=by
 intro cs
 induction cs with
 | nil =>
  intro x y z out
  unfold srch
  split <;> simp
 | cons c cs ih =>
  intro x y z out
  unfold srch
  rw [List.length_cons,Nat.pow_succ,Nat.mul_comm]
  exact fold_le _ _ (fun o w=>ih _ _ _ o) ws out
theorem toList_cons {s:ByteArray} {c:Int} {cs:List Int} (h:bytesOf s=c :: cs):¬ s.toList=([]:List UInt8):=by
 rw [toList_nil_iff]
 have:=congrArg List.length h
 rw [bytesOf_length] at this
 simp at this
 omega
structure Inv (ns x y z : ByteArray) : Prop where
 v:isVs x y z=true
 c:clr ns x y z=(x,y,z)
theorem Inv.set {ns x y z:ByteArray} (h:Inv ns x y z) {c:Int} (hc:c ∈ bytesOf ns) {w:ByteArray} (hw:isW w=true):Inv ns (setv c w x y z).1 (setv c w x y z).2.1 (setv c w x y z).2.2:=by
 obtain ⟨hv,hcl⟩:=h
 unfold isVs at hv
 simp only [Bool.and_eq_true] at hv
 unfold clr at hcl
 simp only [Prod.mk.injEq] at hcl
 unfold setv
 split
 ·subst c
  exact ⟨by simp [isVs,hw,hv],by simp [clr,hc,hcl]⟩
 ·split
  ·subst c
   exact ⟨by simp [isVs,hw,hv],by simp [clr,hc,hcl]⟩
  ·split
   ·subst c
    exact ⟨by simp [isVs,hw,hv],by simp [clr,hc,hcl]⟩
   ·exact ⟨by simp [isVs,hv],by simp [clr,hcl]⟩
section
variable {ps : List S67} {ws : List ByteArray} (hl : ps.length ≤ 1048576) (hs : ∀ y ∈ ps, CsSm y) (hv : valP ps = true) (hw : ∀ w ∈ ws, isW w = true) (hwl : ws.length ≤ 400)
theorem isW_le {s:ByteArray} (h:isW s=true):s.size≤9223372036854775807:=Nat.le_trans (isW_size h) (by decide)
theorem inv_sizes {ns x y z:ByteArray} (h:Inv ns x y z):x.size≤9223372036854775807∧y.size≤9223372036854775807∧z.size≤9223372036854775807:=by
 have:=h.v
 simp only [isVs,Bool.and_eq_true] at this
 exact ⟨isW_le this.1,isW_le this.2.1,isW_le this.2.2⟩
include hl hs hv
theorem leaf_impl {x y z:ByteArray} (h:Inv (varsP ps) x y z):Evt (fun k=>impl_IsModel.f k ps x y z) (ps.all (hldB x y z)):=by
 obtain ⟨h1,h2,h3⟩:=inv_sizes h
 refine (impl_IsModel_ev h1 h2 h3 ps hl hs).cast ?_
 unfold mdl
 rw [hv,h.v,h.c,decide_eq_true rfl]
 rfl
theorem leaf_spec {x y z:ByteArray} (h:isVs x y z=true):Evt (fun k=>spec_l11Keeps.f k ps x y z) (ps.all (hldB x y z)):=by
 simp only [spec_l11Keeps.f]
 have hh:∀ d i:Nat,i+d=ps.length→Evt (fun k=>spec_l11Keeps.l0 k (i:Int) ps x y z) ((ps.drop i).all (hldB x y z)):=by
  intro d
  induction d with
  | zero =>
   intro i hi
   refine Evt.step ?_
   simp only [spec_l11Keeps.l0]
   rw [List.drop_of_length_le (by omega)]
   exact Evt.neg (by omega) (Evt.ret _)
  | succ d ih =>
   intro i hi
   have hi':i < ps.length:=by omega
   have hk:=valP_all hv _ (List.getElem_mem hi')
   obtain ⟨r,h1,h2⟩:=holds_ev (a:=ps[i].f0) (b:=ps[i].f1) (c:=ps[i].f2) (d:=ps[i].f3.f0) (e:=ps[i].f3.f1) (l:=ps[i].f3.f2) (m:=ps[i].f4) (n:=ps[i].f5) hk h
   have h3:=holds_use h ps[i] hk
   rw [h2] at h3
   obtain rfl:=Option.some.inj h3
   refine Evt.step ?_
   simp only [spec_l11Keeps.l0]
   rw [csI_at ps i hi',w64s (by omega),List.drop_eq_getElem_cons hi',List.all_cons]
   refine Evt.pos (by omega) (Evt.pos (by omega) (Evt.bind h1 ?_))
   cases hldB x y z ps[i] with
   | true=>exact Evt.pos rfl (by simpa using ih (i+1) (by omega))
   | false=>exact Evt.neg (by decide) (Evt.ret _)
 exact hh ps.length 0 (by omega)
include hw hwl
theorem impl_srch:∀ (m i:Nat),i+m=(varsP ps).size→∀ (x y z:ByteArray) (out:List S32),Inv (varsP ps) x y z→out.length+ws.length ^ m≤1000000000→Evt (fun k=>mwF k ps (varsP ps) ws (i:Int) x y z out) (srch ps ws ((bytesOf (varsP ps)).drop i) x y z out):=by
 intro m
 induction m with
 | zero =>
  intro i hi x y z out hI ho
  refine Evt.step ?_
  simp only [mwF]
  rw [List.drop_of_length_le za35]
  refine Evt.pos (by omega) (Evt.bind (leaf_impl hl hs hv hI) ?_)
  unfold srch
  cases ps.all (hldB x y z) with
  | true=>exact Evt.pos rfl (Evt.pos (by simp at ho;omega) (Evt.ret _))
  | false=>exact Evt.neg (by decide) (Evt.ret _)
 | succ m ih =>
  intro i hi x y z out hI ho
  have hi':i < (bytesOf (varsP ps)).length:=by rw [bytesOf_length];omega
  refine Evt.step ?_
  simp only [mwF]
  rw [List.drop_eq_getElem_cons hi',← bt_get (varsP ps) i hi']
  have hc:bt (varsP ps) i ∈ bytesOf (varsP ps):=by rw [bt_get _ i hi'];exact List.getElem_mem hi'
  unfold srch
  refine Evt.neg (by omega) ?_
  have h3:=varsP_size ps
  have hh:∀ d j:Nat,j+d=ws.length→∀ out:List S32,out.length+d * ws.length ^ m≤1000000000→Evt (fun k=>mwL k ps (varsP ps) ws (i:Int) x y z out (j:Int)) ((ws.drop j).foldl (fun o w=>srch ps ws ((bytesOf (varsP ps)).drop (i+1)) (setv (bt (varsP ps) i) w x y z).1 (setv (bt (varsP ps) i) w x y z).2.1 (setv (bt (varsP ps) i) w x y z).2.2 o) out):=by
   intro d
   induction d with
   | zero =>
    intro j hj out ho
    refine Evt.step ?_
    simp only [mwL]
    rw [show ws.drop j = [] from List.drop_of_length_le (by omega)]
    exact Evt.neg (by omega) (Evt.ret _)
   | succ d ihd =>
    intro j hj out ho
    have hj':j < ws.length:=by omega
    refine Evt.step ?_
    simp only [mwL]
    rw [List.drop_eq_getElem_cons hj',List.foldl_cons]
    rw [Nat.succ_mul] at ho
    have e:rdOf ByteArray.empty ws (j:Int)=ws[j]:=by simp [rdOf,hj']
    rw [e,w64s (i:=i) (by omega)]
    refine Evt.pos (by omega) (Evt.pos ⟨by omega,by omega,by omega⟩ (Evt.bindc (impl_WithValue_eq _ _ _ _ _) (Evt.bind (ih (i+1) (by omega) _ _ _ out (hI.set hc (hw _ (List.getElem_mem hj'))) (by omega)) ?_)))
    have hle:=srch_le ps ws ((bytesOf (varsP ps)).drop (i+1)) (setv (bt (varsP ps) i) ws[j] x y z).1 (setv (bt (varsP ps) i) ws[j] x y z).2.1 (setv (bt (varsP ps) i) ws[j] x y z).2.2 out
    rw [List.length_drop,bytesOf_length,show (varsP ps).size - (i+1)=m by omega] at hle
    rw [w64s (i:=j) (by omega)]
    exact ihd (j+1) (by omega) _ (by omega)
  have:=hh ws.length 0 (by omega) out (by rw [Nat.pow_succ,Nat.mul_comm] at ho;exact ho)
  simpa using this
theorem spec_srch:∀ (cs:List Int) (a1:ByteArray),bytesOf a1=cs→∀ (x y z:ByteArray) (out:List S32),(∀ c ∈ cs,c ∈ bytesOf (varsP ps))→Inv (varsP ps) x y z→out.length+ws.length ^ cs.length≤1000000000→Evt (fun k=>spec_l11All.f k ps a1 ws x y z out) (srch ps ws cs x y z out):=by
 intro cs
 induction cs with
 | nil =>
  intro a1 ha x y z out _ hI ho
  have hn:a1.toList=([]:List UInt8):=by
   rw [toList_nil_iff,← bytesOf_length,ha]
   rfl
  refine Evt.step ?_
  simp only [spec_l11All.f]
  refine Evt.pos hn (Evt.bind (leaf_spec hl hs hv hI.v) ?_)
  unfold srch
  cases ps.all (hldB x y z) with
  | true=>exact Evt.pos rfl (Evt.pos (by simp at ho;omega) (Evt.ret _))
  | false=>exact Evt.neg (by decide) (Evt.ret _)
 | cons c cs ih =>
  intro a1 ha x y z out hm hI ho
  have hlen:a1.size=cs.length+1:=by rw [← bytesOf_length,ha];rfl
  have h0:0 < (bytesOf a1).length:=by rw [ha];simp
  have hb:bt a1 0=c:=by rw [show (0:Int)=((0:Nat):Int) from rfl,bt_get a1 0 h0];simp only [ha];rfl
  have ht:bytesOf (a1.extract 1 a1.size)=cs:=by rw [bytesOf_tail,ha];rfl
  refine Evt.step ?_
  simp only [spec_l11All.f]
  unfold srch
  refine Evt.neg (toList_cons ha) ?_
  have hh:∀ d j:Nat,j+d=ws.length→∀ out:List S32,out.length+d * ws.length ^ cs.length≤1000000000→Evt (fun k=>spec_l11All.l0 k a1 ws out (j:Int) ps x y z) ((ws.drop j).foldl (fun o w=>srch ps ws cs (setv c w x y z).1 (setv c w x y z).2.1 (setv c w x y z).2.2 o) out):=by
   intro d
   induction d with
   | zero =>
    intro j hj out ho
    refine Evt.step ?_
    simp only [spec_l11All.l0]
    rw [show ws.drop j = [] from List.drop_of_length_le (by omega)]
    exact Evt.neg (by omega) (Evt.ret _)
   | succ d ihd =>
    intro j hj out ho
    have hj':j < ws.length:=by omega
    refine Evt.step ?_
    simp only [spec_l11All.l0]
    rw [List.drop_eq_getElem_cons hj',List.foldl_cons]
    rw [Nat.succ_mul] at ho
    have e:rdOf ByteArray.empty ws (j:Int)=ws[j]:=by simp [rdOf,hj']
    rw [e,hb,w64s (i:=j) (by omega)]
    refine Evt.pos (by omega) (Evt.pos (by omega) (Evt.pos (by omega) (Evt.pos (by omega) (Evt.bindc (spec_WithValue_eq _ _ _ _ _) (Evt.bind (ih _ ht _ _ _ out (fun c' hc'=>hm c' (by simp [hc'])) (hI.set (hm c (by simp)) (hw _ (List.getElem_mem hj'))) (by omega)) ?_)))))
    have hle:=srch_le ps ws cs (setv c ws[j] x y z).1 (setv c ws[j] x y z).2.1 (setv c ws[j] x y z).2.2 out
    exact ihd (j+1) (by omega) _ (by omega)
  have:=hh ws.length 0 (by omega) out (by rw [List.length_cons,Nat.pow_succ,Nat.mul_comm] at ho;exact ho)
  simpa using this
end
theorem boundP_cases (ps:List S67) (hv:valP ps=true):0≤boundP ps∧boundP ps≤5:=by
 unfold boundP
 rw [if_pos hv]
 split
 ·decide
 ·split <;> decide
theorem inv0 (ns:ByteArray):Inv ns (⟨#[]⟩:ByteArray) (⟨#[]⟩:ByteArray) (⟨#[]⟩:ByteArray):=by
 refine ⟨by decide,?_⟩
 unfold clr
 simp
theorem pow_le (W m:Nat) (hW:W≤400) (hm:m≤3):W ^ m≤1000000000:=by
 have h1:W ^ m≤400 ^ m:=Nat.pow_le_pow_left hW m
 have h2:400 ^ m≤400 ^ 3:=Nat.pow_le_pow_right (by omega) hm
 have h3:400 ^ 3≤1000000000:=by decide
 omega
theorem ModelsUpTo_ev (ps:List S67) (hl:ps.length≤1048576) (hs:∀ y ∈ ps,CsSm y) (n:Int):∃ r,Evt (fun k=>impl_ModelsUpTo.f k ps n) r∧Evt (fun k=>spec_ModelsUpTo.f k ps n) r∧r.length≤1000000000:=by
 have i1:=impl_IsValidProblem_ev ps hl hs
 have s1:=spec_IsValidProblem_ev ps hl hs
 simp only [spec_ModelsUpTo.f]
 unfold impl_ModelsUpTo.f
 cases hv:valP ps with
 | false =>
  rw [hv] at i1 s1
  exact ⟨[],Evt.bind i1 (Evt.neg (by decide) (Evt.ret _)),Evt.bind s1 (Evt.neg (by decide) (Evt.ret _)),by simp⟩
 | true =>
  rw [hv] at i1 s1
  obtain ⟨hb0,hb5⟩:=boundP_cases ps hv
  have s2:=spec_BoundOf_ev ps hl hs
  by_cases hn:n < 0
  ·refine ⟨[],Evt.bind i1 (Evt.pos rfl (Evt.pos hn (Evt.ret _))),Evt.bind s1 (Evt.pos rfl (Evt.bind s2 (Evt.bindc (a:=n) ?_ (Evt.bind (a:=[]) ?_ (Evt.pos rfl (Evt.ret _)))))),by simp⟩
   ·unfold spec_l1Min.f
    rw [if_pos (by omega)]
   ·simp only [spec_WordsUpTo.f]
    refine Evt.step ?_
    simp only [spec_WordsUpTo.l0]
    exact Evt.neg (by omega) (Evt.ret _)
  ·obtain ⟨ws,w1,w2,w3,w4,w5⟩:=words_ev (n:=min n (boundP ps)) (by omega) (by omega)
   have h3:=varsP_size ps
   refine ⟨srch ps ws (bytesOf (varsP ps)) (⟨#[]⟩:ByteArray) (⟨#[]⟩:ByteArray) (⟨#[]⟩:ByteArray) [],Evt.bind i1 (Evt.pos rfl (Evt.neg hn (Evt.bind (impl_VarsOfProblem_ev ps hl hs) (Evt.pos (by omega) (Evt.bind (impl_BoundOf_ev ps hl hs) (Evt.bind w1 ?_)))))),Evt.bind s1 (Evt.pos rfl (Evt.bind s2 (Evt.bindc (a:=min n (boundP ps)) ?_ (Evt.bind w2 (Evt.neg (by omega) (Evt.bind (spec_VarsOfProblem_ev ps hl hs) (Evt.bind (spec_srch hl hs hv w3 w4 _ _ rfl _ _ _ [] (fun c hc=>hc) (inv0 _) ?_) (Evt.ret _)))))))),?_⟩
   ·have:=impl_srch hl hs hv w3 w4 (varsP ps).size 0 (by omega) _ _ _ [] (inv0 _) (by simpa using pow_le ws.length _ w4 h3)
    simpa using this
   ·unfold spec_l1Min.f
    by_cases h:n < boundP ps
    ·rw [if_pos h,Int.min_eq_left (by omega)]
    ·rw [if_neg h,Int.min_eq_right (by omega)]
   ·simpa [bytesOf_length] using pow_le ws.length _ w4 h3
   ·have:=srch_le ps ws (bytesOf (varsP ps)) (⟨#[]⟩:ByteArray) (⟨#[]⟩:ByteArray) (⟨#[]⟩:ByteArray) []
    rw [bytesOf_length] at this
    have:=pow_le ws.length (varsP ps).size w4 h3
    simp at *
    omega
theorem FirstModel_ev (ps:List S67) (hl:ps.length≤1048576) (hs:∀ y ∈ ps,CsSm y) (n:Int):∃ r,Evt (fun k=>impl_FirstModel.f k ps n) r∧Evt (fun k=>spec_FirstModel.f k ps n) r:=by
 obtain ⟨r,h1,h2,_⟩:=ModelsUpTo_ev ps hl hs n
 simp only [spec_FirstModel.f,impl_FirstModel.f]
 by_cases h0:(r.length:Int)=0
 ·exact ⟨_,Evt.bind h1 (Evt.pos h0 (Evt.ret _)),Evt.bind h2 (Evt.pos h0 (Evt.ret _))⟩
 ·exact ⟨_,Evt.bind h1 (Evt.neg h0 (Evt.pos (by omega) (Evt.ret _))),Evt.bind h2 (Evt.neg h0 (Evt.pos (by omega) (Evt.ret _)))⟩
end Go.Proofs.YtffjfdoghofkdaaGreat.F
namespace Go.Proofs.YtffjfdoghofkdaaGreat.Pure
open Go Go.RowKit YtffjfdoghofkdaaGreatW.PrintWords YtffjfdoghofkdaaGreat.Pl YtffjfdoghofkdaaGreat.F YtffjfdoghofkdaaGreat.A YtffjfdoghofkdaaGreat.Ext YtffjfdoghofkdaaGreat.BtFnExactFirstModel
theorem rxOk_of (n:Nat):∀ x:S101,wf101N n x→RxOk n x:=by
 induction n with
 | zero=>intro x h;exact h.elim
 | succ n ih=>intro x h;exact ⟨h.2.1,h.2.2.1,fun a ha=>ih a (h.2.2.2 a ha)⟩
theorem csOk_of (x:S103) (h:wf103 x):CsOk x:=by
 obtain ⟨_,h1,h2,⟨n,h3⟩,h4,_⟩:=h
 exact ⟨h1,h2,⟨n,rxOk_of n _ h3⟩,h4.1⟩
theorem FnExactFirstModel:FnExactFirstModel.Pure:=by
 intro l n hl hn
 refine Evt.get (g:=fun k=>laws_FnExactFirstModel.f k l n) ?_
 simp only [laws_FnExactFirstModel.f]
 obtain ⟨t,ht,hs⟩:=szProblem_ev l hl.1 (fun x hx=>csOk_of x (hl.2 x hx)) 1048576 (by omega) (by omega)
 rcases hs with rfl|⟨h0,h1,ys,hv⟩
 ·exact Evt.bind ht (Evt.pos (by decide) (Evt.ret _))
 have q1:=toProblem_ev hv
 obtain ⟨r,r1,r2⟩:=FirstModel_ev ys hv.1 hv.2.1 n
 refine Evt.bind ht (Evt.neg (by omega) (Evt.bind q1 (Evt.bind r2 (Evt.bind q1 (Evt.bind r1 (Evt.bindc (a:=true) (by unfold laws_eqValues.f;simp) (Evt.pos rfl (Evt.step ?_))))))))
 simp only [laws_FnExactFirstModel.j0]
 exact Evt.neg (by simp) (Evt.bind q1 (Evt.bind (eqProblem_ev hv) (Evt.pos rfl (Evt.ret _))))
end Go.Proofs.YtffjfdoghofkdaaGreat.Pure
namespace Go.Proofs.YtffjfdoghofkdaaGreat.fnExactFirstModel
open Go.ChangeShapes Go.WideShapes Go.ChangeAt Go.RowKit YtffjfdoghofkdaaGreat.Br YtffjfdoghofkdaaGreatW.PrintWords YtffjfdoghofkdaaGreat.A YtffjfdoghofkdaaGreat.BtFnExactFirstModel
open Go.ChangeMaps (open_string shut_string)
theorem own:ownKnob Tryz.prog.godebug=none:=by kernel_rfl
theorem laidOut:laidOutB Tryz.prog=true:=by kernel_rfl
set_option maxHeartbeats 2000000 in
theorem lifted (os:Os) (started:os.Started) (H:Type) (enc:TypeId × Value→H) :
  ReturnsInHanded {} Tryz.checked os 4 .any (Rows.fnExactFirstModelSpec.pre6 enc Tryz.prog Tryz.f4 Rows.fnExactFirstModelRow.domain false) (Rows.fnExactFirstModelSpec.post enc Tryz.prog Tryz.f4 false true false false):=by
 refine returnsInHanded_of_change_sized (C:=Tryz.checked) own started (by kernel_rfl) Tryz.func4
  (ChangeSpec.witness6 (enc:=enc) (C:=Tryz.checked) false ⟨#[],#[.agg #[.slice none 0 0],.int .i64 0],[]⟩ 8 (by kernel_rfl) (by kernel_rfl) (by kernel_rfl) (by kernel_rfl)) ?_
 intro W base args ds gs before hval0 hW hcnd hsz0 _
 have hval:∀ (j:Nat) t v,Tryz.f4.params[j]? = some t→args[j]? = some v→Value.okWide Tryz.prog W .any base t v:=hval0
 have hW':=hW
 obtain ⟨p,q,hA0,hV,rfl,hfz,hnd⟩:=hW
 have hA:DataW.TrodAll enc Tryz.prog W 0 (fun _=>true) true Tryz.f4.params.toList args.toList ds p:=hA0
 rw [Tryz.params4] at hA hval
 obtain ⟨v0,vs0,d0,ds0,p0,q0,hargs,rfl,rfl,h0,r0⟩:=trodAll_cons hA
 obtain ⟨v1,vs1,d1,ds1,p1,q1,rfl,rfl,rfl,h1,r1⟩:=trodAll_cons r0
 obtain ⟨rfl,rfl,rfl⟩:=trodAll_nil r1
 obtain rfl:args = #[v0,v1]:=by cases args;simp_all
 obtain ⟨rfl,rfl⟩:=trodVars_none hV
 have k0:=h0
 have lt0:∀ x ∈ p0,x.block < W.heap.size:=by obtain ⟨m,hm⟩:=k0;exact DataW.trod_lt m _ _ _ hm
 obtain ⟨arr0,rfl,_,_⟩:∃ cs,v0 = .agg cs∧cs.size=Tryz.prog.cellsOf 42∧Row.okWide Tryz.prog W .any base 42 cs:=by have z:=(hval 0 42 v0 rfl rfl);unfold Value.okWide at z;rw [Tryz.underlying42] at z;exact z
 obtain ⟨fuel0,hf0⟩:=h0
 obtain ⟨l0_0,hK0,hw0⟩:=(show ∀ n,BrN Tryz.prog n 42 _ _ from fun n=>(br_struct' Tryz.underlying42 (show Tryz.prog.cellsOf 42=1 by kernel_rfl) (fun n=>(bf_one rfl (show Tryz.prog.cellsOf 40=1 by kernel_rfl) (br_slice' Tryz.underlying40 (show Tryz.prog.cellsOf 103=8 by kernel_rfl) (fun n=>(br103 n)) n))) n)) fuel0 H enc W 0 (fun _=>true) true fuel0 _ _ (Nat.le_refl _) hf0
 replace hw0:=hw0
 have w0_0:=hw0
 obtain ⟨cs0,hcs0,hK0⟩:∃ cs,(Value.agg arr0).cells.toList=cs∧_:=⟨_,rfl,hK0⟩
 obtain ⟨A0_0,c0_0,rfl,hc0_0,hr0_0⟩:=hK0
 obtain rfl:arr0 = #[.slice A0_0 l0_0.length c0_0]:=arr_of hcs0
 have k1:=h1
 have lt1:∀ x ∈ p1,x.block < W.heap.size:=by obtain ⟨m,hm⟩:=k1;exact DataW.trod_lt m _ _ _ hm
 obtain ⟨a1,rfl,rfl,rfl,w1⟩:=open_int Tryz.underlying3 (hval 1 3 v1 rfl rfl) h1
 clear hA0 hval0 hsz0
 obtain ⟨k,hp⟩:=Pure.FnExactFirstModel l0_0 a1 w0_0 w1
 refine (laws_FnExactFirstModel.calls k _ _ l0_0 a1 true W hr0_0 hc0_0 hp).mono fun e W' ⟨he,bel0⟩ => ?_
 subst he
 have bel:Below W.heap.size W W':=bel0
 exact ⟨_,rfl,_,_,_,[],_,[],hW',trodAll_mk1 (shut_bool Tryz.underlying4 _),(trodAll_cons_mk (Below.trod laidOut (by kernel_rfl) (of_decide_eq_true (by kernel_rfl)) k0 bel lt0) (trodAll_cons_mk (Below.trod laidOut (by kernel_rfl) (of_decide_eq_true (by kernel_rfl)) k1 bel lt1) trodAll_mk0)),rfl,bel.frame _,fun h=>by cases h⟩
theorem fact0:(Rows.fnExactFirstModelRow.inPlace == Tryz.pinned.checked.prog.inPlace 4)=true:=by kernel_rfl
theorem fact1:(Rows.fnExactFirstModelRow.unfollowed == Tryz.pinned.checked.prog.unfollowed 4)=true:=by kernel_rfl
theorem fact2:(Rows.fnExactFirstModelRow.recurses == Tryz.pinned.checked.prog.recurses 4)=true:=by kernel_rfl
theorem fact3:(Rows.fnExactFirstModelRow.named == Tryz.pinned.checked.prog.varsNamed 4)=true:=by kernel_rfl
theorem facts:joinedFacts Tryz.pinned.checked.prog 4 Tryz.f4 Rows.fnExactFirstModelSpec Rows.fnExactFirstModelRow=true:=by
 unfold joinedFacts
 rw [fact0,fact1,fact2,fact3]
 kernel_rfl
theorem known:Tryz.pinned.checked.prog.funcNamed Rows.fnExactFirstModelRow.func=some 4:=by kernel_rfl
theorem inst:Tryz.f4.isInstance Tryz.pinned.checked.prog Rows.fnExactFirstModelRow.origin Rows.fnExactFirstModelRow.targs:=of_decide_eq_true (by kernel_rfl)
theorem wrap:Tryz.f4.isWrapper Tryz.pinned.checked.prog Rows.fnExactFirstModelRow.wrapper Rows.fnExactFirstModelRow.mainSum:=by unfold Func.isWrapper;first|(rw [if_pos (by decide +kernel)];kernel_rfl)|(rw [if_neg (by decide +kernel)];exact ⟨rfl,rfl⟩)
theorem over:Rows.fnExactFirstModelRow.holds Tryz.pinned (OpenSpec.ofChange Rows.fnExactFirstModelSpec) :=
 OpenClaim.holds_of_wide 4 Tryz.f4 rfl rfl rfl rfl rfl rfl rfl ⟨rfl,rfl,rfl,rfl,rfl⟩ rfl rfl rfl rfl rfl known Tryz.func4 facts inst wrap
  (fun os started H enc _=>lifted os started H enc)
theorem proved:Rows.FnExactFirstModelSaid:=over
#print axioms proved
end Go.Proofs.YtffjfdoghofkdaaGreat.fnExactFirstModel
namespace Go.Proofs.YtffjfdoghofkdaaGreat
theorem fnExactFirstModel_holds:Rows.FnExactFirstModelSaid:=fnExactFirstModel.proved
end Go.Proofs.YtffjfdoghofkdaaGreat
