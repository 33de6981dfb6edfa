/- FnExactLeastModel: what its proof needs, put together by this session's program wip/merge.py out of the texts that wip/xp.py printed and of this session's own. -/
import Derived.Test.YtffjfdoghofkdaaGreatQFnExactLeastModel2
import Derived.Test.YtffjfdoghofkdaaGreatProg
import Derived.Shelf.Abstract
import Derived.Deep.LoopGhost
import Derived.Deep.QuietTactic
import Derived.BigQuiet
import Derived.Below
import Derived.Outline
import Derived.Deep.RegionLaw
set_option linter.unusedVariables false
set_option linter.unusedSimpArgs false
set_option linter.unusedSectionVars false
set_option maxHeartbeats 8000000
set_option maxRecDepth 100000
namespace Go.Proofs.YtffjfdoghofkdaaGreat.Ext
open Go Go.RowKit YtffjfdoghofkdaaGreatW.PrintWords YtffjfdoghofkdaaGreatW.PrintLast
def FT (l:Lay) (s:ByteArray) (T:Nat→Nat→Nat→Bool):Rx→Nat→Nat→Prop
 | .none,p,lo=>lo=p∧(∀ i j,T p i j=mt s .none i j)∧l.kd p=1
 | .empty,p,lo=>lo=p∧(∀ i j,T p i j=mt s .empty i j)∧l.kd p=2
 | .any,p,lo=>lo=p∧(∀ i j,T p i j=mt s .any i j)∧l.kd p=4
 | .letter x,p,lo=>lo=p∧(∀ i j,T p i j=mt s (.letter x) i j)∧l.kd p=3∧l.lt p=x
 | .not t,p,lo=>lo≤p∧(∀ i j,T p i j=mt s (.not t) i j)∧l.kd p=9∧∃ a:Nat,l.ar p = [(a:Int)]∧a+1=p∧FT l s T t a lo
 | .star t,p,lo=>lo≤p∧(∀ i j,T p i j=mt s (.star t) i j)∧l.kd p=8∧∃ a:Nat,l.ar p = [(a:Int)]∧a+1=p∧FT l s T t a lo
 | .cat t u,p,lo=>lo≤p∧(∀ i j,T p i j=mt s (.cat t u) i j)∧l.kd p=5∧∃ a b:Nat,l.ar p = [(a:Int),(b:Int)]∧b+1=p∧FT l s T t a lo∧FT l s T u b (a+1)
 | .or t u,p,lo=>lo≤p∧(∀ i j,T p i j=mt s (.or t u) i j)∧l.kd p=6∧∃ a b:Nat,l.ar p = [(a:Int),(b:Int)]∧b+1=p∧FT l s T t a lo∧FT l s T u b (a+1)
 | .and t u,p,lo=>lo≤p∧(∀ i j,T p i j=mt s (.and t u) i j)∧l.kd p=7∧∃ a b:Nat,l.ar p = [(a:Int),(b:Int)]∧b+1=p∧FT l s T t a lo∧FT l s T u b (a+1)
theorem FT.le {l:Lay} {s:ByteArray} {T:Nat→Nat→Nat→Bool} {t:Rx} {p lo:Nat} (h:FT l s T t p lo):lo≤p:=by
 cases t <;> first|exact Nat.le_of_eq h.1|exact h.1
theorem FT.here {l:Lay} {s:ByteArray} {T:Nat→Nat→Nat→Bool} {t:Rx} {p lo:Nat} (h:FT l s T t p lo):∀ i j,T p i j=mt s t i j:=by
 cases t <;> exact h.2.1
section
variable (l : Lay) (w0 W1 : World) (g : Nat) (s : ByteArray) (L : Nat) (ok : LayOk l w0 W1 g s L) (hsL : s.size + 1 = L) (hL : L ≤ 401) (T : Nat → Nat → Nat → Bool)
include ok hsL hL
theorem ic_of (t:Rx) (p lo:Nat) (hp:p < l.N) (hlo:lo≤p) (hT:∀ i j,T p i j=mt s t i j) (hk:(l.kd p == 8)=false)
  (hf:∀ (i j:Nat) (m:Nat→Nat→List Int) (W:World),i≤j→j < L→SSt l W1 L m W→Gs L T m lo p→Below w0.heap.size w0 W→Calls Tryz.prog 142 #[.pointer (some ⟨g,0,none⟩),.int .i64 (p:Int),.int .i64 (i:Int),.int .i64 (j:Int)] W (SPost l w0 W1 L T m lo p (.bool (mt s t i j)))) :
  IC l w0 W1 g s L T t p lo:=by
 intro i j pv iv jv m W e1 e2 e3 hij hj hS hG hB
 subst e1 e2 e3
 by_cases hv:(m p i).getD j 0=0
 ·exact is_find l w0 W1 g s L ok T lo p i j hlo hp hij hj _ (hT i j) m W hS hB hk hG hv fun m' W' h1 h2 h3=>hf i j m' W' hij hj h1 h2 h3
 ·exact is_known l w0 W1 g s L ok T lo p i j hlo hp hij hj _ (hT i j) m W hS hB hG hv
theorem is_all (t:Rx):∀ p lo,p < l.N→FT l s T t p lo→IC l w0 W1 g s L T t p lo:=by
 induction t with
 | none =>
  intro p lo hp h
  exact ic_of l w0 W1 g s L ok hsL hL T .none p lo hp h.le h.here (by rw [h.2.2];rfl) fun i j m W hij hj hS hG hB=>sfind_leaf l w0 W1 g s L ok hsL hL T lo p i j h.le hp hij hj m W hS hB hG _ (.inl ⟨h.2.2,rfl⟩)
 | empty =>
  intro p lo hp h
  exact ic_of l w0 W1 g s L ok hsL hL T .empty p lo hp h.le h.here (by rw [h.2.2];rfl) fun i j m W hij hj hS hG hB=>sfind_leaf l w0 W1 g s L ok hsL hL T lo p i j h.le hp hij hj m W hS hB hG _ (.inr (.inl ⟨h.2.2,rfl⟩))
 | any =>
  intro p lo hp h
  exact ic_of l w0 W1 g s L ok hsL hL T .any p lo hp h.le h.here (by rw [h.2.2];rfl) fun i j m W hij hj hS hG hB=>sfind_leaf l w0 W1 g s L ok hsL hL T lo p i j h.le hp hij hj m W hS hB hG _ (.inr (.inr (.inl ⟨h.2.2,rfl⟩)))
 | letter x =>
  intro p lo hp h
  exact ic_of l w0 W1 g s L ok hsL hL T (.letter x) p lo hp h.le h.here (by rw [h.2.2.1];rfl) fun i j m W hij hj hS hG hB=>sfind_leaf l w0 W1 g s L ok hsL hL T lo p i j h.le hp hij hj m W hS hB hG _ (.inr (.inr (.inr ⟨h.2.2.1,by rw [h.2.2.2];rfl⟩)))
 | cat t u iht ihu =>
  intro p lo hp h
  obtain ⟨h1,h2,h3,a,b,har,hb,ht,hu⟩:=id h
  have l1:=ht.le
  have l2:=hu.le
  exact ic_of l w0 W1 g s L ok hsL hL T (.cat t u) p lo hp h1 h2 (by rw [h3];rfl) fun i j m W hij hj hS hG hB=>sfind_cat l w0 W1 g s L ok hsL hL T lo p i j h1 hp hij hj m W hS hB hG t u a b h3 har l1 (by omega) hb (iht a lo (by omega) ht) (ihu b (a+1) (by omega) hu)
 | or t u iht ihu =>
  intro p lo hp h
  obtain ⟨h1,h2,h3,a,b,har,hb,ht,hu⟩:=id h
  have l1:=ht.le
  have l2:=hu.le
  exact ic_of l w0 W1 g s L ok hsL hL T (.or t u) p lo hp h1 h2 (by rw [h3];rfl) fun i j m W hij hj hS hG hB=>sfind_or l w0 W1 g s L ok hsL hL T lo p i j h1 hp hij hj m W hS hB hG t u a b h3 har l1 (by omega) hb (iht a lo (by omega) ht) (ihu b (a+1) (by omega) hu)
 | and t u iht ihu =>
  intro p lo hp h
  obtain ⟨h1,h2,h3,a,b,har,hb,ht,hu⟩:=id h
  have l1:=ht.le
  have l2:=hu.le
  exact ic_of l w0 W1 g s L ok hsL hL T (.and t u) p lo hp h1 h2 (by rw [h3];rfl) fun i j m W hij hj hS hG hB=>sfind_and l w0 W1 g s L ok hsL hL T lo p i j h1 hp hij hj m W hS hB hG t u a b h3 har l1 (by omega) hb (iht a lo (by omega) ht) (ihu b (a+1) (by omega) hu)
 | not t iht =>
  intro p lo hp h
  obtain ⟨h1,h2,h3,a,har,hb,ht⟩:=id h
  exact ic_of l w0 W1 g s L ok hsL hL T (.not t) p lo hp h1 h2 (by rw [h3];rfl) fun i j m W hij hj hS hG hB=>sfind_not l w0 W1 g s L ok hsL hL T lo p i j h1 hp hij hj m W hS hB hG t a h3 har ht.le hb (iht a lo (by omega) ht)
 | star t iht =>
  intro p lo hp h
  obtain ⟨h1,h2,h3,a,har,hb,ht⟩:=id h
  intro i j pv iv jv m W e1 e2 e3 hij hj hS hG hB
  subst e1 e2 e3
  by_cases hv:(m p i).getD j 0=0
  ·exact is_star l w0 W1 g s L ok T lo p i j h1 hp hij hj _ (h2 i j) m W hS hB (by rw [h3];rfl) hG hv fun m' W' h4 h5 h6=>star_calls l w0 W1 g s L ok hsL hL T lo p i h1 hp (by omega) t a har ht.le hb (iht a lo (by omega) ht) h2 m' W' h4 h6 h5
  ·exact is_known l w0 W1 g s L ok T lo p i j h1 hp hij hj _ (h2 i j) m W hS hB hG hv
end
end Go.Proofs.YtffjfdoghofkdaaGreat.Ext
-- ALSO loop.example/g00582/impl.size
namespace Go.Proofs.YtffjfdoghofkdaaGreat.Ext
open Go Go.RowKit YtffjfdoghofkdaaGreatW.PrintWords YtffjfdoghofkdaaGreatW.PrintLast YtffjfdoghofkdaaGreat.A
def ix (n a i j:Nat):Nat:=(a * n+i) * n+j
theorem ix_inj {n a i j a' i' j':Nat} (hi:i < n) (hj:j < n) (hi':i' < n) (hj':j' < n) (h:ix n a i j=ix n a' i' j'):a=a'∧i=i'∧j=j':=by
 unfold ix at h
 have q1:((a * n+i) * n+j) / n=a * n+i:=by rw [Nat.mul_comm,Nat.mul_add_div (by omega),Nat.div_eq_of_lt hj,Nat.add_zero]
 have q2:((a' * n+i') * n+j') / n=a' * n+i':=by rw [Nat.mul_comm,Nat.mul_add_div (by omega),Nat.div_eq_of_lt hj',Nat.add_zero]
 have q3:(a * n+i) / n=a:=by rw [Nat.mul_comm,Nat.mul_add_div (by omega),Nat.div_eq_of_lt hi,Nat.add_zero]
 have q4:(a' * n+i') / n=a':=by rw [Nat.mul_comm,Nat.mul_add_div (by omega),Nat.div_eq_of_lt hi',Nat.add_zero]
 have e1:a * n+i=a' * n+i':=by rw [← q1,← q2,h]
 have e2:a=a':=by rw [← q3,← q4,e1]
 subst e2
 have e3:i=i':=by omega
 subst e3
 exact ⟨rfl,rfl,by omega⟩
theorem ix_lt {n a i j z:Nat} (ha:a < z) (hi:i < n) (hj:j < n):ix n a i j < z * n * n:=by
 unfold ix
 have h1:a * n+i+1≤z * n:=by
  have:(a+1) * n≤z * n:=Nat.mul_le_mul_right n ha
  rw [Nat.add_mul] at this
  omega
 have h2:(a * n+i+1) * n≤z * n * n:=Nat.mul_le_mul_right n h1
 rw [Nat.add_mul (a * n+i) 1 n] at h2
 omega
structure MSt (g b : Nat) (s : ByteArray) (n : Nat) (m : List Int) (W : World) : Prop where
 hm:W.heap[g]? = some (.cells #[.string s,.int .i64 (n:Int),.slice (some ⟨b,0,none⟩) m.length m.length] 120 (0,0))
 hb:W.heap[b]? = some (.cells (nums .i8 m).toArray 137 (0,0))
def Rg0:=Nat→Nat→Nat→Prop
def RgM (id sz len:Nat):Rg0:=fun a i j=>id≤a∧a < id+sz∧(a=id→j - i≤len)
def RgF (id sz len:Nat):Rg0:=fun a i j=>id≤a∧a < id+sz∧(a=id→j - i < len)
def Gd (n:Nat) (T:Nat→Nat→Nat→Bool) (m:List Int) (R:Rg0):Prop :=
 ∀ a i j,i≤j→j < n→R a i j→m.getD (ix n a i j) 0=0∨m.getD (ix n a i j) 0=if T a i j=true then 2 else 1
def Sm3 (n:Nat) (m m':List Int) (R:Rg0):Prop:=∀ a i j,i≤j→j < n→¬ R a i j→m'.getD (ix n a i j) 0=m.getD (ix n a i j) 0
theorem Gd.sub {n:Nat} {T:Nat→Nat→Nat→Bool} {m:List Int} {R R':Rg0} (h:Gd n T m R) (hs:∀ a i j,R' a i j→R a i j):Gd n T m R' :=
 fun a i j h1 h2 h3=>h a i j h1 h2 (hs _ _ _ h3)
theorem Gd.next {n:Nat} {T:Nat→Nat→Nat→Bool} {m m':List Int} {R R':Rg0} (h:Gd n T m R) (h':Gd n T m' R') (hs:Sm3 n m m' R'):Gd n T m' R:=by
 intro a i j h1 h2 h3
 by_cases h4:R' a i j
 ·exact h' a i j h1 h2 h4
 ·rw [hs a i j h1 h2 h4];exact h a i j h1 h2 h3
theorem Sm3.next {n:Nat} {m m' m2:List Int} {R R':Rg0} (h:Sm3 n m m' R) (h':Sm3 n m' m2 R') (hs:∀ a i j,R' a i j→R a i j):Sm3 n m m2 R :=
 fun a i j h1 h2 h3=>(h' a i j h1 h2 (fun h4=>h3 (hs _ _ _ h4))).trans (h a i j h1 h2 h3)
theorem Sm3.refl (n:Nat) (m:List Int) (R:Rg0):Sm3 n m m R:=fun _ _ _ _ _ _=>rfl
def MPost (w0 W:World) (g b:Nat) (s:ByteArray) (n:Nat) (T:Nat→Nat→Nat→Bool) (m:List Int) (R:Rg0) (r:Bool) (e:Ending) (W':World):Prop :=
 e = .returned (.bool r)∧∃ m':List Int,m'.length=m.length∧MSt g b s n m' W'∧Gd n T m' R∧Sm3 n m m' R∧KeepBut W W' b none∧Below w0.heap.size w0 W'
theorem MSt.cell {g b:Nat} {s:ByteArray} {n:Nat} {m:List Int} {W:World} (h:MSt g b s n m W) (k:Nat) (hk:k < m.length):W.cell? ⟨b,k,none⟩=some (.int .i8 (m.getD k 0)):=by
 rw [blk_cell h.hb]
 simp [nums,hk]
theorem MSt.below {g b:Nat} {s:ByteArray} {n:Nat} {m:List Int} {W W':World} (h:MSt g b s n m W) (hb:Below W.heap.size W W'):MSt g b s n m W':=⟨blk_below h.hm hb,blk_below h.hb hb⟩
theorem getD_set_ne {l:List Int} {i j:Nat} (v d:Int) (h:i ≠ j):(l.set i v).getD j d=l.getD j d:=by
 rw [List.getD_eq_getElem?_getD,List.getD_eq_getElem?_getD,List.getElem?_set_ne h]
theorem getD_set_eq {l:List Int} {i:Nat} (v d:Int) (h:i < l.length):(l.set i v).getD i d=v:=by
 rw [List.getD_eq_getElem?_getD,List.getElem?_set_self h];rfl
theorem MSt.put {g b:Nat} {s:ByteArray} {n:Nat} {m:List Int} {W:World} (h:MSt g b s n m W) (hgb:g ≠ b) (k:Nat) (v:Int):MSt g b s n (m.set k v) (W.setCell ⟨b,k,none⟩ (.int .i8 v)):=by
 refine ⟨?_,?_⟩
 ·rw [List.length_set]
  exact blk_far h.hm hgb _
 ·refine blk_put h.hb k _ ?_
  simp [nums,List.map_set]
theorem wrap_nat (k:Nat) (h:k≤9223372036854775807):wrap64 (k:Int)=k:=by unfold wrap64;omega
theorem iwrap_nat (k:Nat) (h:k≤9223372036854775807):IntKind.i64.wrap (k:Int)=k:=by rw [i64_w];exact wrap_nat k h
theorem ix_steps (n id i j m z:Nat) (hix:ix n id i j < m) (hl:m=z * n * n) (hz:z≤16) (hn:n≤401) :
  IntKind.i64.wrap ((id:Int) * (n:Int))=(id:Int) * (n:Int)∧wrap64 ((id:Int) * (n:Int)+(i:Int))=(id:Int) * (n:Int)+(i:Int) ∧
  wrap64 (((id:Int) * (n:Int)+(i:Int)) * (n:Int))=((id:Int) * (n:Int)+(i:Int)) * (n:Int)∧wrap64 (((id:Int) * (n:Int)+(i:Int)) * (n:Int)+(j:Int))=((ix n id i j:Nat):Int):=by
 have hzn:z * n * n≤16 * 401 * 401:=Nat.mul_le_mul (Nat.mul_le_mul hz hn) hn
 have c0:((id * n:Nat):Int)=(id:Int) * (n:Int):=Int.natCast_mul ..
 have c1:(((id * n+i) * n:Nat):Int)=((id:Int) * (n:Int)+(i:Int)) * (n:Int):=by rw [Int.natCast_mul,Int.natCast_add,c0]
 have c2:((ix n id i j:Nat):Int)=((id:Int) * (n:Int)+(i:Int)) * (n:Int)+(j:Int):=by unfold ix;rw [Int.natCast_add,c1]
 have e3:ix n id i j=(id * n+i) * n+j:=rfl
 have h4:ix n id i j≤3000000:=by omega
 generalize hk:ix n id i j=k at *
 have h3:(id * n+i) * n≤3000000:=by omega
 have hn0:0 < n:=by
  rcases Nat.eq_zero_or_pos n with h|h
  ·subst h;simp at hl;omega
  ·exact h
 have h2:id * n+i≤3000000:=Nat.le_trans (Nat.le_mul_of_pos_right _ hn0) h3
 refine ⟨?_,?_,?_,?_⟩
 ·rw [← c0];exact iwrap_nat _ (by omega)
 ·rw [← c0,← Int.natCast_add];exact wrap_nat _ (by omega)
 ·rw [← c1];exact wrap_nat _ (by omega)
 ·rw [← c2];exact wrap_nat _ (by omega)
set_option maxHeartbeats 4000000 in
theorem match_of_find (w0:World) (g b:Nat) (hgb:g ≠ b) (hg:w0.heap.size≤g) (hb:w0.heap.size≤b) (s:ByteArray) (n:Nat) (hn:n≤401) (z:Nat) (hz:z≤16) (T:Nat→Nat→Nat→Bool)
  (x:S65) (A:Option Addr) (c:Nat) (id sz i j:Nat) (hid:id < z) (hs0:0 < sz) (hij:i≤j) (hj:j < n) (r:Bool) (hT:T id i j=r)
  (hf:∀ (m:List Int) (W:World),m.length=z * n * n→MSt g b s n m W→Gd n T m (RgF id sz (j - i))→Below w0.heap.size w0 W →
   Calls Tryz.prog 132 #[.pointer (some ⟨g,0,none⟩),.agg #[.int .i64 x.f0,.string x.f1,.slice A x.f2.length c],.int .i64 (id:Int),.int .i64 (i:Int),.int .i64 (j:Int)] W (MPost w0 W g b s n T m (RgF id sz (j - i)) r))
  (m:List Int) (W:World) (hl:m.length=z * n * n) (hM:MSt g b s n m W) (hG:Gd n T m (RgM id sz (j - i))) (hB:Below w0.heap.size w0 W) :
  Calls Tryz.prog 109 #[.pointer (some ⟨g,0,none⟩),.agg #[.int .i64 x.f0,.string x.f1,.slice A x.f2.length c],.int .i64 (id:Int),.int .i64 (i:Int),.int .i64 (j:Int)] W (MPost w0 W g b s n T m (RgM id sz (j - i)) r):=by
 have hix:ix n id i j < m.length:=by rw [hl];exact ix_lt hid (by omega) hj
 obtain ⟨v1,v2,v3,v4⟩:=ix_steps n id i j m.length z hix hl hz hn
 have HM:=zk hM
 have HB:=zk hB
 have HG:=zk hG
 have HF:=zk hf
 have HX:=zk hix
 have HL:=zk hl
 have HT:=zk hT
 clear hM hB hG hf hl hT
 go_enter Tryz.func109,Tryz.ntmps109
 go_upto_region 1 with ((with_reducible refine gate_dst (N:=6) rfl ?_);refine zE (N:=6) (cs:=#[.int .i64 x.f0,.string x.f1,.slice A x.f2.length c]) (t:=65) ?_;intro gx hgx w3 hbox hb3;have M3:=zk (HM.out.below hb3);have K3:=zk (KeepBut.of_below hb3 b none);have B3:=zk (below_step HB.out hb3:Below w0.heap.size w0 w3);have X3:=zk hbox;have G3:=zk (show W.heap.size≤gx by omega);have N3:=zk (show b < W.heap.size from blk_lt HM.out.hb);clear hb3 hbox hgx)
 go_cut [11] (fun v11 wc=>v11 = .int .i64 ((ix n id i j:Nat):Int)∧Aside0 (MSt g b s n m wc)∧Aside0 (KeepBut W wc b none)∧Aside0 (Below w0.heap.size w0 wc)∧Aside0 (wc.heap[gx]? = some (.cells #[.int .i64 x.f0,.string x.f1,.slice A x.f2.length c] 65 (0,0))))
 case first =>
  obtain ⟨z0,z1,z2,f0,f1,f2⟩:=blk3 M3.out.hm
  go_quiet (fail)
  try go_wp2
  go_meet
  case rel=>exact ⟨by simp only [v1,v2,v3,v4],⟨M3.out.hm,M3.out.hb⟩,⟨K3.out⟩,⟨pw_below_drewN B3.out _⟩,⟨X3.out⟩⟩
 case rest =>
  clear M3 K3 B3 X3 HM HB v1 v2 v3 v4
  obtain ⟨rfl,HM,HK,HB,HX3⟩:=hcut
  obtain ⟨z0,z1,z2,f0,f1,f2⟩:=blk3 HM.out.hm
  have zc:=HM.out.cell _ HX.out
  have q1:=eq_true hix
  clear hix
  by_cases hv:m.getD (ix n id i j) 0=0
  ·have hgx:gx ≠ b:=by have:=G3.out;have:=N3.out;omega
   have hgx':b ≠ gx:=fun h=>hgx h.symm
   have hgb':b ≠ g:=fun h=>hgb h.symm
   have HS1:=zk (show (m.set (ix n id i j) 1).length=z * n * n by rw [List.length_set];exact HL.out)
   have HG1:Aside0 (Gd n T (m.set (ix n id i j) 1) (RgF id sz (j - i))):=⟨by
    intro a' i' j' h1 h2 h3
    have hne:ix n id i j ≠ ix n a' i' j':=by
     intro he
     obtain ⟨rfl,rfl,rfl⟩:=ix_inj (by omega) hj (by omega) h2 he
     have:=h3.2.2 rfl
     omega
    rw [getD_set_ne _ _ hne]
    exact HG.out a' i' j' h1 h2 ⟨h3.1,h3.2.1,fun e=>by have:=h3.2.2 e;omega⟩⟩
   have HN:Aside0 (¬ RgF id sz (j - i) id i j):=⟨fun h=>by have:=h.2.2 rfl;omega⟩
   have HI:Aside0 (∀ (m5:List Int) (v:Int),m5.length=m.length→(v=if r=true then 2 else 1)→m5.getD (ix n id i j) 0=v→Gd n T m5 (RgF id sz (j - i))→(∀ a' i' j',i'≤j'→j' < n→ix n id i j ≠ ix n a' i' j'→¬ RgF id sz (j - i) a' i' j'→m5.getD (ix n a' i' j') 0=(m.set (ix n id i j) 1).getD (ix n a' i' j') 0)→Gd n T m5 (RgM id sz (j - i))∧Sm3 n m m5 (RgM id sz (j - i))):=⟨by
    intro m5 v h5 hv5 h0 hG5 hS5
    refine ⟨fun a' i' j' h1 h2 h3=>?_,fun a' i' j' h1 h2 h3=>?_⟩
    ·by_cases he:ix n id i j=ix n a' i' j'
     ·obtain ⟨rfl,rfl,rfl⟩:=ix_inj (by omega) hj (by omega) h2 he
      rw [h0,hv5,HT.out]
      exact .inr rfl
     ·by_cases h4:RgF id sz (j - i) a' i' j'
      ·exact hG5 a' i' j' h1 h2 h4
      ·rw [hS5 a' i' j' h1 h2 he h4,getD_set_ne _ _ he]
       exact HG.out a' i' j' h1 h2 h3
    ·have he:ix n id i j ≠ ix n a' i' j':=by
      intro he
      obtain ⟨rfl,rfl,rfl⟩:=ix_inj (by omega) hj (by omega) h2 he
      exact h3 ⟨Nat.le_refl _,by omega,fun _=>Nat.le_refl _⟩
     have h4:¬ RgF id sz (j - i) a' i' j':=fun h=>h3 ⟨h.1,h.2.1,fun e=>by have:=h.2.2 e;omega⟩
     rw [hS5 a' i' j' h1 h2 he h4,getD_set_ne _ _ he]⟩
   rw [hv] at zc
   clear hv
   have fc:=blk_frozen HM.out.hb (ix n id i j)
   obtain ⟨y0,y1,y2,g0,g1,g2⟩:=blk3 HX3.out
   cases r
   ·go_wp2_with (go_at_call 132;refine (HF.out (m.set (ix n id i j) 1) _ HS1.out (HM.out.put hgb _ 1) HG1.out (HB.out.setCell hb _)).mono ?_;rintro e w5 ⟨rfl,m5,hl5,M5,G5,S5,K5,B5⟩;have n0_:=zk hl5;have n1_:=zk G5;have n2_:=zk S5;have n3_:=zk K5;have n4_:=zk B5;have n5_:=zk M5;clear hl5 G5 S5 K5 B5 M5 z0 z1 z2 f0 f1 f2 zc fc y0 y1 y2 g0 g1 g2;obtain ⟨z0,z1,z2,f0,f1,f2⟩:=blk3 n5_.out.hm;have zc:=n5_.out.cell (ix n id i j) (by rw [n0_.out,List.length_set];exact HX.out);rw [n2_.out id i j hij hj HN.out,getD_set_eq _ _ HX.out] at zc;have q1:=eq_true (show ix n id i j < m5.length by rw [n0_.out,List.length_set];exact HX.out))
    go_ret
    have n6_:=HI.out m5 1 (by rw [n0_.out,List.length_set]) rfl (by rw [n2_.out id i j hij hj HN.out,getD_set_eq _ _ HX.out]) n1_.out (fun a' i' j' h1 h2 _ h3=>n2_.out a' i' j' h1 h2 h3)
    exact ⟨rfl,m5,by rw [n0_.out,List.length_set],n5_.out,n6_.1,n6_.2,(HK.out.set_ _ _).trans n3_.out (.inl rfl),n4_.out⟩
   ·go_wp2_with (go_at_call 132;refine (HF.out (m.set (ix n id i j) 1) _ HS1.out (HM.out.put hgb _ 1) HG1.out (HB.out.setCell hb _)).mono ?_;rintro e w5 ⟨rfl,m5,hl5,M5,G5,S5,K5,B5⟩;have n0_:=zk hl5;have n1_:=zk G5;have n2_:=zk S5;have n3_:=zk K5;have n4_:=zk B5;have n5_:=zk M5;clear hl5 G5 S5 K5 B5 M5 z0 z1 z2 f0 f1 f2 zc fc y0 y1 y2 g0 g1 g2;obtain ⟨z0,z1,z2,f0,f1,f2⟩:=blk3 n5_.out.hm;have zc:=n5_.out.cell (ix n id i j) (by rw [n0_.out,List.length_set];exact HX.out);rw [n2_.out id i j hij hj HN.out,getD_set_eq _ _ HX.out] at zc;have q1:=eq_true (show ix n id i j < m5.length by rw [n0_.out,List.length_set];exact HX.out);have fc:=blk_frozen n5_.out.hb (ix n id i j))
    go_ret
    have n6_:=HI.out (m5.set (ix n id i j) 2) 2 (by rw [List.length_set,n0_.out,List.length_set]) rfl (getD_set_eq _ _ (by rw [n0_.out,List.length_set];exact HX.out)) (fun a' i' j' h1 h2 h3=>by
     have hne:ix n id i j ≠ ix n a' i' j':=by
      intro he
      obtain ⟨rfl,rfl,rfl⟩:=ix_inj (by omega) hj (by omega) h2 he
      have:=h3.2.2 rfl
      omega
     rw [getD_set_ne _ _ hne]
     exact n1_.out a' i' j' h1 h2 h3) (fun a' i' j' h1 h2 he h3=>by rw [getD_set_ne _ _ he];exact n2_.out a' i' j' h1 h2 h3)
    exact ⟨rfl,_,by rw [List.length_set,n0_.out,List.length_set],n5_.out.put hgb _ 2,n6_.1,n6_.2,((HK.out.set_ _ _).trans n3_.out (.inl rfl)).set_ _ _,n4_.out.setCell hb _⟩
  ·have hr:m.getD (ix n id i j) 0=if r=true then 2 else 1:=by
    rcases HG.out id i j hij hj ⟨Nat.le_refl _,by omega,fun _=>Nat.le_refl _⟩ with h|h
    ·exact absurd h hv
    ·rw [h,HT.out]
   clear hv
   rw [hr] at zc
   clear hr
   cases r
   all_goals
    simp only [if_true,Bool.false_eq_true,if_false] at zc
    go_wp2
    go_ret
    exact ⟨rfl,m,rfl,HM.out,HG.out,Sm3.refl _ _ _,HK.out,HB.out⟩
theorem arg_at {w0 W:World} {A:Option Addr} {l:List S65} (hC:Kd.C k65 w0 A l.length l) (hB:Below w0.heap.size w0 W) (i:Nat) (hi:i < l.length) :
  ∃ ad A2 c2,A=some ad∧W.cell? (ad.add (i * 3))=some (.int .i64 l[i].f0)∧W.cell? ⟨(ad.add (i * 3)).block,(ad.add (i * 3)).off+1,none⟩=some (.string l[i].f1)∧W.cell? ⟨(ad.add (i * 3)).block,(ad.add (i * 3)).off+2,none⟩=some (.slice A2 l[i].f2.length c2)∧l[i].f2.length≤c2∧Kd.C k65 w0 A2 l[i].f2.length l[i].f2:=by
 obtain ⟨ad,A2,c2,e,h0,h1,h2,h3,h4⟩:=at_T65 hC (i:Int) (by omega) (by omega)
 have he:rd_T65 l (i:Int)=l[i]:=by simp [rd_T65,hi]
 rw [he] at h0 h1 h2 h3 h4
 rw [Int.toNat_natCast] at h0 h1 h2
 exact ⟨ad,A2,c2,e,(hB.cell (World.block_lt_of_cell? w0 _ h0)).trans h0,(hB.cell (World.block_lt_of_cell? w0 _ h1)).trans h1,(hB.cell (World.block_lt_of_cell? w0 _ h2)).trans h2,h3,h4⟩
theorem arg0_at {w0 W:World} {A:Option Addr} {x:S65} {l:List S65} (hC:Kd.C k65 w0 A (x :: l).length (x :: l)) (hB:Below w0.heap.size w0 W) :
  ∃ ad A2 c2,A=some ad∧W.cell? ad=some (.int .i64 x.f0)∧W.cell? ⟨ad.block,ad.off+1,none⟩=some (.string x.f1)∧W.cell? ⟨ad.block,ad.off+2,none⟩=some (.slice A2 x.f2.length c2)∧x.f2.length≤c2∧Kd.C k65 w0 A2 x.f2.length x.f2:=by
 obtain ⟨ad,A2,c2,e,h0,h1,h2,h3,h4⟩:=arg_at hC hB 0 (by simp)
 rw [Nat.zero_mul,Addr.add_zero'] at h0 h1 h2
 exact ⟨ad,A2,c2,e,h0,h1,h2,h3,h4⟩
theorem arg1_at {w0 W:World} {ad:Addr} {x y:S65} {l:List S65} (hC:Kd.C k65 w0 (some ad) (x :: y :: l).length (x :: y :: l)) (hB:Below w0.heap.size w0 W) :
  ∃ A2 c2,W.cell? ⟨ad.block,ad.off+3,none⟩=some (.int .i64 y.f0)∧W.cell? ⟨ad.block,ad.off+3+1,none⟩=some (.string y.f1)∧W.cell? ⟨ad.block,ad.off+3+2,none⟩=some (.slice A2 y.f2.length c2)∧y.f2.length≤c2∧Kd.C k65 w0 A2 y.f2.length y.f2:=by
 obtain ⟨ad',A2,c2,e,h0,h1,h2,h3,h4⟩:=arg_at hC hB 1 (by simp)
 obtain rfl:ad=ad':=by injection e
 have e3:ad.add (1 * 3)=⟨ad.block,ad.off+3,none⟩:=by simp [Addr.add]
 rw [e3] at h0 h1 h2
 exact ⟨A2,c2,h0,h1,h2,h3,h4⟩
def MC (w0:World) (g b:Nat) (s:ByteArray) (n z:Nat) (T:Nat→Nat→Nat→Bool) (t:Rx) (k:Int) (bs:ByteArray) (A:Option Addr) (q c:Nat) (id len:Nat):Prop :=
 ∀ (i j:Nat) (ids iv jv:Int) (m:List Int) (W:World),ids=(id:Int)→iv=(i:Int)→jv=(j:Int)→i≤j→j < n→j - i < len→m.length=z * n * n→MSt g b s n m W→Gd n T m (RgM id t.size (j - i))→Below w0.heap.size w0 W →
  Calls Tryz.prog 109 #[.pointer (some ⟨g,0,none⟩),.agg #[.int .i64 k,.string bs,.slice A q c],.int .i64 ids,.int .i64 iv,.int .i64 jv] W (MPost w0 W g b s n T m (RgM id t.size (j - i)) (mt s t i j))
section
variable (w0 : World) (g b : Nat) (hgb : g ≠ b) (hg : w0.heap.size ≤ g) (hb : w0.heap.size ≤ b) (s : ByteArray) (n : Nat) (hn : n ≤ 401) (hsn : s.size + 1 = n) (z : Nat) (hz : z ≤ 16) (T : Nat → Nat → Nat → Bool)
 (bs:ByteArray) (A:Option Addr) (c id i j:Nat) (hij:i≤j) (hj:j < n) (m:List Int) (W:World) (hl:m.length=z * n * n) (hM:MSt g b s n m W) (hB:Below w0.heap.size w0 W)
include hgb hg hb hn hsn hz hij hj hl hM hB
set_option maxHeartbeats 4000000 in
theorem find_leaf (k:Int) (r:Bool) (hk:(k=1∧r=false)∨(k=2∧r=(i == j))∨(k=4∧r=(j == i+1))∨(k=3∧r=((s.extract i j).toList == bs.toList))) (sz:Nat) (hG:Gd n T m (RgF id sz (j - i))) :
  Calls Tryz.prog 132 #[.pointer (some ⟨g,0,none⟩),.agg #[.int .i64 k,.string bs,.slice A 0 c],.int .i64 (id:Int),.int .i64 (i:Int),.int .i64 (j:Int)] W (MPost w0 W g b s n T m (RgF id sz (j - i)) r):=by
 have HM:=zk hM
 have HB:=zk hB
 have HG:=zk hG
 clear hM hB hG hl
 have e1:((i:Int) == (j:Int))=(i == j):=by rw [Bool.eq_iff_iff];simp;omega
 have e2:((j:Int) - (i:Int) == 1)=(j == i+1):=by rw [Bool.eq_iff_iff];simp;omega
 rcases hk with ⟨rfl,rfl⟩|⟨rfl,rfl⟩|⟨rfl,rfl⟩|⟨rfl,rfl⟩
 ·go_enter Tryz.func132,Tryz.ntmps132
  go_wp2_with ((with_reducible refine gate_dst (N:=6) rfl ?_);refine zE (N:=6) (cs:=#[.int .i64 1,.string bs,.slice A 0 c]) (t:=65) ?_;intro gx hgx w3 hbox hb3;have M3:=zk (HM.out.below hb3);have K3:=zk (KeepBut.of_below hb3 b none);have B3:=zk (below_step HB.out hb3:Below w0.heap.size w0 w3);have X3:=zk hbox;have G3:=zk (show W.heap.size≤gx by omega);have N3:=zk (show b < W.heap.size from blk_lt HM.out.hb);clear hb3 hbox hgx;obtain ⟨y0,y1,y2,g0,g1,g2⟩:=blk3 X3.out;obtain ⟨z0,z1,z2,f0,f1,f2⟩:=blk3 M3.out.hm)
  repeat (go_quiet (fail);try go_wp2)
  go_ret
  exact ⟨za40,m,rfl,⟨M3.out.hm,M3.out.hb⟩,HG.out,Sm3.refl _ _ _,⟨K3.out.1,K3.out.2⟩,za49⟩
 ·go_enter Tryz.func132,Tryz.ntmps132
  go_wp2_with ((with_reducible refine gate_dst (N:=6) rfl ?_);refine zE (N:=6) (cs:=#[.int .i64 2,.string bs,.slice A 0 c]) (t:=65) ?_;intro gx hgx w3 hbox hb3;have M3:=zk (HM.out.below hb3);have K3:=zk (KeepBut.of_below hb3 b none);have B3:=zk (below_step HB.out hb3:Below w0.heap.size w0 w3);have X3:=zk hbox;have G3:=zk (show W.heap.size≤gx by omega);have N3:=zk (show b < W.heap.size from blk_lt HM.out.hb);clear hb3 hbox hgx;obtain ⟨y0,y1,y2,g0,g1,g2⟩:=blk3 X3.out;obtain ⟨z0,z1,z2,f0,f1,f2⟩:=blk3 M3.out.hm)
  repeat (go_quiet (fail);try go_wp2)
  go_ret
  exact ⟨za40,m,rfl,⟨M3.out.hm,M3.out.hb⟩,HG.out,Sm3.refl _ _ _,⟨K3.out.1,K3.out.2⟩,za49⟩
 ·go_enter Tryz.func132,Tryz.ntmps132
  go_wp2_with ((with_reducible refine gate_dst (N:=6) rfl ?_);refine zE (N:=6) (cs:=#[.int .i64 4,.string bs,.slice A 0 c]) (t:=65) ?_;intro gx hgx w3 hbox hb3;have M3:=zk (HM.out.below hb3);have K3:=zk (KeepBut.of_below hb3 b none);have B3:=zk (below_step HB.out hb3:Below w0.heap.size w0 w3);have X3:=zk hbox;have G3:=zk (show W.heap.size≤gx by omega);have N3:=zk (show b < W.heap.size from blk_lt HM.out.hb);clear hb3 hbox hgx;obtain ⟨y0,y1,y2,g0,g1,g2⟩:=blk3 X3.out;obtain ⟨z0,z1,z2,f0,f1,f2⟩:=blk3 M3.out.hm)
  repeat (go_quiet (fail);try go_wp2)
  go_ret
  exact ⟨za40,m,rfl,⟨M3.out.hm,M3.out.hb⟩,HG.out,Sm3.refl _ _ _,⟨K3.out.1,K3.out.2⟩,za49⟩
 ·have hjs:=eq_true (show j≤s.size by omega)
  have hij2:=eq_true hij
  clear hij hj
  go_enter Tryz.func132,Tryz.ntmps132
  go_wp2_with ((with_reducible refine gate_dst (N:=6) rfl ?_);refine zE (N:=6) (cs:=#[.int .i64 3,.string bs,.slice A 0 c]) (t:=65) ?_;intro gx hgx w3 hbox hb3;have M3:=zk (HM.out.below hb3);have K3:=zk (KeepBut.of_below hb3 b none);have B3:=zk (below_step HB.out hb3:Below w0.heap.size w0 w3);have X3:=zk hbox;have G3:=zk (show W.heap.size≤gx by omega);have N3:=zk (show b < W.heap.size from blk_lt HM.out.hb);clear hb3 hbox hgx;obtain ⟨y0,y1,y2,g0,g1,g2⟩:=blk3 X3.out;obtain ⟨z0,z1,z2,f0,f1,f2⟩:=blk3 M3.out.hm)
  repeat (go_quiet (fail);try go_wp2)
  go_ret
  exact ⟨za40,m,rfl,⟨M3.out.hm,M3.out.hb⟩,HG.out,Sm3.refl _ _ _,⟨K3.out.1,K3.out.2⟩,za49⟩
end
end Go.Proofs.YtffjfdoghofkdaaGreat.Ext
namespace Go.Proofs.YtffjfdoghofkdaaGreat.Ext
open Go Go.RowKit YtffjfdoghofkdaaGreatW.PrintWords YtffjfdoghofkdaaGreatW.PrintLast
structure Nd where
 k:Int
 l:ByteArray
 sv:Value
 ars:List Int
 aA:Option Addr
 ac:Nat
 tb:Nat
 tc:Nat
 rows:List Nat
def Nd.av (x:Nd):Value:=.slice x.aA x.ars.length x.ac
def Nd.mv (L:Nat) (x:Nd):Value:=.slice (some ⟨x.tb,0,none⟩) L x.tc
def Nd.cells (x:Nd):List Value:=[.int .i64 x.k,.string x.l,x.sv]
def Nd.blks (x:Nd):List Nat:=x.av.ownBlock.toList ++ (x.tb :: x.rows)
structure NOk (W : World) (base L : Nat) (x : Nd) : Prop where
 a:W.ownsRow base 3 1 x.av x.ars.length (nums .i64 x.ars)
 t:W.ownsRow base 59 1 (x.mv L) L (x.rows.map fun b => .slice (some ⟨b,0,none⟩) L L)
 len:x.rows.length=L
 r:∀ b ∈ x.rows,base≤b∧W.heap[b]? = some (.cells (nums .i64 (List.replicate L 0)).toArray 3 (0,0))
theorem NOk.lt {W:World} {base L:Nat} {x:Nd} (h:NOk W base L x):∀ b ∈ x.blks,b < W.heap.size:=by
 intro b hb
 simp only [Nd.blks,List.mem_append,List.mem_cons,Option.mem_toList] at hb
 rcases hb with hb|rfl|hb
 ·exact (h.a.lt b hb).2
 ·exact (h.t.lt _ rfl).2
 ·exact blk_lt (h.r b hb).2
theorem NOk.move {W W':World} {base L:Nat} {x:Nd} (h:NOk W base L x) (hm:∀ b ∈ x.blks,W'.heap[b]? = W.heap[b]?):NOk W' base L x:=by
 refine ⟨own_move h.a fun k hk=>hm k ?_,own_move h.t fun k hk=>hm k ?_,h.len,fun b hb=>⟨(h.r b hb).1,(hm b ?_).trans (h.r b hb).2⟩⟩
 ·simp only [Nd.blks,List.mem_append,Option.mem_toList];exact .inl hk
 ·have:x.tb=k:=by simpa [Nd.mv,Value.ownBlock] using hk
  subst this
  simp [Nd.blks]
 ·simp [Nd.blks,hb]
def Apt (g:Nat) (vn va vm:Value) (b:Nat):Prop:=b ≠ g∧vn.ownBlock ≠ some b∧va.ownBlock ≠ some b∧vm.ownBlock ≠ some b
structure P3 (W : World) (base g : Nat) (s : ByteArray) (L : Nat) (nl al ml nodes : List Nd) (vn va vm : Value) : Prop where
 z:W.heap[g]? = some (.cells #[.string s,vn,va,vm] 142 (0,0))
 n:W.ownsRow base 65 3 vn nl.length (nl.flatMap Nd.cells)
 a:W.ownsRow base 59 1 va al.length (al.map Nd.av)
 m:W.ownsRow base 139 1 vm ml.length (ml.map (Nd.mv L))
 ok:∀ x ∈ nodes,NOk W base L x
 nd:(nodes.flatMap Nd.blks).Nodup
 sep:∀ b ∈ nodes.flatMap Nd.blks,Apt g vn va vm b
theorem P3.lt {W:World} {base g:Nat} {s:ByteArray} {L:Nat} {nl al ml nodes:List Nd} {vn va vm:Value} (h:P3 W base g s L nl al ml nodes vn va vm):∀ b ∈ nodes.flatMap Nd.blks,b < W.heap.size:=by
 intro b hb
 obtain ⟨x,hx,hb⟩:=List.mem_flatMap.1 hb
 exact (h.ok x hx).lt b hb
structure Step (g : Nat) (W : World) (vn va vm : Value) (W' : World) (vn' va' vm' : Value) : Prop where
 sz:W.heap.size≤W'.heap.size
 fr:∀ k,k < W.heap.size→Apt g vn va vm k→W'.heap[k]? = W.heap[k]?
 n:∀ k,vn'.ownBlock=some k→vn.ownBlock=some k∨W.heap.size≤k
 a:∀ k,va'.ownBlock=some k→va.ownBlock=some k∨W.heap.size≤k
 m:∀ k,vm'.ownBlock=some k→vm.ownBlock=some k∨W.heap.size≤k
section
variable {g : Nat} {W W' W2 : World} {vn va vm vn' va' vm' vn2 va2 vm2 : Value}
theorem Step.refl (g:Nat) (W:World) (vn va vm:Value):Step g W vn va vm W vn va vm:=⟨Nat.le_refl _,fun _ _ _=>rfl,fun _ h => .inl h,fun _ h => .inl h,fun _ h => .inl h⟩
theorem Step.apt (h:Step g W vn va vm W' vn' va' vm') {k:Nat} (hk:k < W.heap.size) (ha:Apt g vn va vm k):Apt g vn' va' vm' k :=
 ⟨ha.1,fun e=>by rcases h.n k e with h|h;exact ha.2.1 h;omega,fun e=>by rcases h.a k e with h|h;exact ha.2.2.1 h;omega,fun e=>by rcases h.m k e with h|h;exact ha.2.2.2 h;omega⟩
theorem Step.trans (h:Step g W vn va vm W' vn' va' vm') (h':Step g W' vn' va' vm' W2 vn2 va2 vm2):Step g W vn va vm W2 vn2 va2 vm2:=by
 refine ⟨Nat.le_trans h.sz h'.sz,fun k hk ha=>(h'.fr k (Nat.lt_of_lt_of_le hk h.sz) (h.apt hk ha)).trans (h.fr k hk ha),fun k e=>?_,fun k e=>?_,fun k e=>?_⟩
 ·rcases h'.n k e with h1|h1
  ·exact h.n k h1
  ·exact .inr (Nat.le_trans h.sz h1)
 ·rcases h'.a k e with h1|h1
  ·exact h.a k h1
  ·exact .inr (Nat.le_trans h.sz h1)
 ·rcases h'.m k e with h1|h1
  ·exact h.m k h1
  ·exact .inr (Nat.le_trans h.sz h1)
theorem Step.below (hb:Below W.heap.size W W'):Step g W vn va vm W' vn va vm:=⟨hb.size,fun k hk _=>hb.block k hk,fun _ h => .inl h,fun _ h => .inl h,fun _ h => .inl h⟩
theorem Step.row {v:Value} (hg:W.grownBy W' v.ownBlock) (hv:∀ k,v.ownBlock=some k→W2.heap.size≤k) (h:Step g W2 vn va vm W vn' va' vm'):Step g W2 vn va vm W' vn' va' vm' :=
 ⟨Nat.le_trans h.sz hg.size,fun k hk ha=>(hg.block k (Nat.lt_of_lt_of_le hk h.sz) (fun e=>by have:=hv k e.symm;omega)).trans (h.fr k hk ha),h.n,h.a,h.m⟩
theorem P3.move {base:Nat} {s:ByteArray} {L:Nat} {nl al ml nodes:List Nd} (h:P3 W base g s L nl al ml nodes vn va vm) (hg:W'.heap[g]? = W.heap[g]?) (hn:∀ k,vn.ownBlock=some k→W'.heap[k]? = W.heap[k]?) (ha:∀ k,va.ownBlock=some k→W'.heap[k]? = W.heap[k]?) (hm:∀ k,vm.ownBlock=some k→W'.heap[k]? = W.heap[k]?)
  (hb:∀ b ∈ nodes.flatMap Nd.blks,W'.heap[b]? = W.heap[b]?):P3 W' base g s L nl al ml nodes vn va vm :=
 ⟨hg.trans h.z,own_move h.n hn,own_move h.a ha,own_move h.m hm,fun x hx=>(h.ok x hx).move fun b hb'=>hb b (List.mem_flatMap.2 ⟨x,hx,hb'⟩),h.nd,h.sep⟩
theorem P3.below {base:Nat} {s:ByteArray} {L:Nat} {nl al ml nodes:List Nd} (h:P3 W base g s L nl al ml nodes vn va vm) (hb:Below W.heap.size W W'):P3 W' base g s L nl al ml nodes vn va vm :=
 h.move (hb.block _ (blk_lt h.z)) (fun k e=>hb.block k (h.n.lt k e).2) (fun k e=>hb.block k (h.a.lt k e).2) (fun k e=>hb.block k (h.m.lt k e).2) (fun b e=>hb.block b (h.lt b e))
theorem P3.row {base:Nat} {s:ByteArray} {L:Nat} {nl al ml nodes:List Nd} {v:Value} (h:P3 W base g s L nl al ml nodes vn va vm) (hg:W.grownBy W' v.ownBlock) (hv:∀ k,v.ownBlock=some k→Apt g vn va vm k∧k ∉ nodes.flatMap Nd.blks):P3 W' base g s L nl al ml nodes vn va vm :=
 h.move (hg.block _ (blk_lt h.z) (fun e=>(hv g e.symm).1.1 rfl)) (fun k e=>hg.block k (h.n.lt k e).2 (fun e'=>(hv k e'.symm).1.2.1 e)) (fun k e=>hg.block k (h.a.lt k e).2 (fun e'=>(hv k e'.symm).1.2.2.1 e)) (fun k e=>hg.block k (h.m.lt k e).2 (fun e'=>(hv k e'.symm).1.2.2.2 e)) (fun b e=>hg.block b (h.lt b e) (fun e'=>(hv b e'.symm).2 e))
theorem P3.add {base:Nat} {s:ByteArray} {L:Nat} {nl al ml nodes:List Nd} (h:P3 W base g s L nl al ml nodes vn va vm) (x:Nd) (hx:NOk W base L x) (hnd:x.blks.Nodup) (hdis:∀ b ∈ x.blks,b ∉ nodes.flatMap Nd.blks) (hsep:∀ b ∈ x.blks,Apt g vn va vm b):P3 W base g s L nl al ml (nodes ++ [x]) vn va vm:=by
 refine ⟨h.z,h.n,h.a,h.m,fun y hy=>?_,?_,fun b hb=>?_⟩
 ·rcases List.mem_append.1 hy with hy|hy
  ·exact h.ok y hy
  ·rw [List.mem_singleton.1 hy];exact hx
 ·rw [List.flatMap_append,List.nodup_append]
  refine ⟨h.nd,by simpa using hnd,fun b hb c hc e=>?_⟩
  subst e
  exact hdis b (by simpa using hc) hb
 ·rw [List.flatMap_append] at hb
  rcases List.mem_append.1 hb with hb|hb
  ·exact h.sep b hb
  ·exact hsep b (by simpa using hb)
theorem ne_of_own {v v':Value} (h:v.ownBlock=none∨v.ownBlock ≠ v'.ownBlock) {k:Nat} (hk:v.ownBlock=some k):v'.ownBlock ≠ some k:=by
 rcases h with h|h
 ·rw [h] at hk;cases hk
 ·rw [hk] at h;exact fun e=>h e.symm
theorem P3.grow_n {base:Nat} {s:ByteArray} {L:Nat} {nl al ml nodes:List Nd} (h:P3 W base g s L nl al ml nodes vn va vm) (x:Nd) (hown:W'.ownsRow base 65 3 vn' (nl.length+1) (nl.flatMap Nd.cells ++ x.cells)) (hg:W.grownBy W' vn.ownBlock) (hat:vn'.ownBlock=vn.ownBlock∨∃ b,vn'.ownBlock=some b∧W.heap.size≤b) :
  P3 (W'.setCell ⟨g,1,none⟩ vn') base g s L (nl ++ [x]) al ml nodes vn' va vm∧Step g W vn va vm (W'.setCell ⟨g,1,none⟩ vn') vn' va vm:=by
 have hgn:some g ≠ vn.ownBlock:=own_ne h.n h.z (by decide)
 have hz':W'.heap[g]? = _:=(hg.block g (blk_lt h.z) hgn).trans h.z
 have hgn':some g ≠ vn'.ownBlock:=own_ne hown hz' (by decide)
 have ha:W'.ownsRow base 59 1 va al.length _:=h.a.kept hg (own_type_ne h.a h.n (by decide))
 have ha':some g ≠ va.ownBlock:=own_ne h.a h.z (by decide)
 have hm:W'.ownsRow base 139 1 vm ml.length _:=h.m.kept hg (own_type_ne h.m h.n (by decide))
 have hm':some g ≠ vm.ownBlock:=own_ne h.m h.z (by decide)
 have hsep:∀ b,b < W.heap.size→Apt g vn va vm b→Apt g vn' va vm b:=fun b hlt hb'=>by
  refine ⟨hb'.1,?_,hb'.2.2.1,hb'.2.2.2⟩
  intro e
  rcases hat with h1|⟨b1,h1,h2⟩
  ·exact hb'.2.1 (h1.symm.trans e)
  ·rw [h1] at e;injection e with e;omega
 refine ⟨⟨blk_put hz' 1 _ (by simp),(by simpa [List.flatMap_append] using own_setCell hown hgn' vn'),own_setCell ha ha' _,own_setCell hm hm' _,fun y hy=>(h.ok y hy).move fun b hb=>?_,h.nd,fun b hb=>hsep b (h.lt b hb) (h.sep b hb)⟩,⟨by simpa using hg.size,fun k hk ha' => ?_,fun k e=>?_,fun k e => .inl e,fun k e => .inl e⟩⟩
 ·have hb2:=List.mem_flatMap.2 ⟨y,hy,hb⟩
  have hb':=h.sep b hb2
  exact (Below.heap_setCell W' _ _ b hb'.1).trans (hg.block b (h.lt b hb2) (fun e=>hb'.2.1 e.symm))
 ·have hb':=ha'
  exact (Below.heap_setCell W' _ _ k hb'.1).trans (hg.block k hk (fun e=>hb'.2.1 e.symm))
 ·rcases hat with h1|⟨b1,h1,h2⟩
  ·exact .inl (h1.symm.trans e)
  ·rw [h1] at e;injection e with e;exact .inr (by omega)
theorem P3.grow_a {base:Nat} {s:ByteArray} {L:Nat} {nl al ml nodes:List Nd} (h:P3 W base g s L nl al ml nodes vn va vm) (x:Nd) (hown:W'.ownsRow base 59 1 va' (al.length+1) (al.map Nd.av ++ [x.av])) (hg:W.grownBy W' va.ownBlock) (hat:va'.ownBlock=va.ownBlock∨∃ b,va'.ownBlock=some b∧W.heap.size≤b) :
  P3 (W'.setCell ⟨g,2,none⟩ va') base g s L nl (al ++ [x]) ml nodes vn va' vm∧Step g W vn va vm (W'.setCell ⟨g,2,none⟩ va') vn va' vm:=by
 have hgn:some g ≠ va.ownBlock:=own_ne h.a h.z (by decide)
 have hz':W'.heap[g]? = _:=(hg.block g (blk_lt h.z) hgn).trans h.z
 have hgn':some g ≠ va'.ownBlock:=own_ne hown hz' (by decide)
 have hn:W'.ownsRow base 65 3 vn nl.length _:=h.n.kept hg (own_type_ne h.n h.a (by decide))
 have hn':some g ≠ vn.ownBlock:=own_ne h.n h.z (by decide)
 have hm:W'.ownsRow base 139 1 vm ml.length _:=h.m.kept hg (own_type_ne h.m h.a (by decide))
 have hm':some g ≠ vm.ownBlock:=own_ne h.m h.z (by decide)
 have hsep:∀ b,b < W.heap.size→Apt g vn va vm b→Apt g vn va' vm b:=fun b hlt hb'=>by
  refine ⟨hb'.1,hb'.2.1,?_,hb'.2.2.2⟩
  intro e
  rcases hat with h1|⟨b1,h1,h2⟩
  ·exact hb'.2.2.1 (h1.symm.trans e)
  ·rw [h1] at e;injection e with e;omega
 refine ⟨⟨blk_put hz' 2 _ (by simp),own_setCell hn hn' _,(by simpa [List.map_append] using own_setCell hown hgn' va'),own_setCell hm hm' _,fun y hy=>(h.ok y hy).move fun b hb=>?_,h.nd,fun b hb=>hsep b (h.lt b hb) (h.sep b hb)⟩,⟨by simpa using hg.size,fun k hk ha' => ?_,fun k e => .inl e,fun k e=>?_,fun k e => .inl e⟩⟩
 ·have hb2:=List.mem_flatMap.2 ⟨y,hy,hb⟩
  have hb':=h.sep b hb2
  exact (Below.heap_setCell W' _ _ b hb'.1).trans (hg.block b (h.lt b hb2) (fun e=>hb'.2.2.1 e.symm))
 ·have hb':=ha'
  exact (Below.heap_setCell W' _ _ k hb'.1).trans (hg.block k hk (fun e=>hb'.2.2.1 e.symm))
 ·rcases hat with h1|⟨b1,h1,h2⟩
  ·exact .inl (h1.symm.trans e)
  ·rw [h1] at e;injection e with e;exact .inr (by omega)
theorem P3.grow_m {base:Nat} {s:ByteArray} {L:Nat} {nl al ml nodes:List Nd} (h:P3 W base g s L nl al ml nodes vn va vm) (x:Nd) (hown:W'.ownsRow base 139 1 vm' (ml.length+1) (ml.map (Nd.mv L) ++ [x.mv L])) (hg:W.grownBy W' vm.ownBlock) (hat:vm'.ownBlock=vm.ownBlock∨∃ b,vm'.ownBlock=some b∧W.heap.size≤b) :
  P3 (W'.setCell ⟨g,3,none⟩ vm') base g s L nl al (ml ++ [x]) nodes vn va vm'∧Step g W vn va vm (W'.setCell ⟨g,3,none⟩ vm') vn va vm':=by
 have hgn:some g ≠ vm.ownBlock:=own_ne h.m h.z (by decide)
 have hz':W'.heap[g]? = _:=(hg.block g (blk_lt h.z) hgn).trans h.z
 have hgn':some g ≠ vm'.ownBlock:=own_ne hown hz' (by decide)
 have hn:W'.ownsRow base 65 3 vn nl.length _:=h.n.kept hg (own_type_ne h.n h.m (by decide))
 have hn':some g ≠ vn.ownBlock:=own_ne h.n h.z (by decide)
 have ha:W'.ownsRow base 59 1 va al.length _:=h.a.kept hg (own_type_ne h.a h.m (by decide))
 have ha':some g ≠ va.ownBlock:=own_ne h.a h.z (by decide)
 have hsep:∀ b,b < W.heap.size→Apt g vn va vm b→Apt g vn va vm' b:=fun b hlt hb'=>by
  refine ⟨hb'.1,hb'.2.1,hb'.2.2.1,?_⟩
  intro e
  rcases hat with h1|⟨b1,h1,h2⟩
  ·exact hb'.2.2.2 (h1.symm.trans e)
  ·rw [h1] at e;injection e with e;omega
 refine ⟨⟨blk_put hz' 3 _ (by simp),own_setCell hn hn' _,own_setCell ha ha' _,(by simpa [List.map_append] using own_setCell hown hgn' vm'),fun y hy=>(h.ok y hy).move fun b hb=>?_,h.nd,fun b hb=>hsep b (h.lt b hb) (h.sep b hb)⟩,⟨by simpa using hg.size,fun k hk ha' => ?_,fun k e => .inl e,fun k e => .inl e,fun k e=>?_⟩⟩
 ·have hb2:=List.mem_flatMap.2 ⟨y,hy,hb⟩
  have hb':=h.sep b hb2
  exact (Below.heap_setCell W' _ _ b hb'.1).trans (hg.block b (h.lt b hb2) (fun e=>hb'.2.2.2 e.symm))
 ·have hb':=ha'
  exact (Below.heap_setCell W' _ _ k hb'.1).trans (hg.block k hk (fun e=>hb'.2.2.2 e.symm))
 ·rcases hat with h1|⟨b1,h1,h2⟩
  ·exact .inl (h1.symm.trans e)
  ·rw [h1] at e;injection e with e;exact .inr (by omega)
end
end Go.Proofs.YtffjfdoghofkdaaGreat.Ext
namespace Go.Proofs.YtffjfdoghofkdaaGreat.Ext
open Go Go.RowKit YtffjfdoghofkdaaGreatW.PrintWords YtffjfdoghofkdaaGreatW.PrintLast YtffjfdoghofkdaaGreat.A
def APost (w0 W:World) (g:Nat) (s:ByteArray) (L:Nat) (nodes:List Nd) (vn va vm:Value) (Q:Int→List Nd→Prop) (e:Ending) (W':World):Prop :=
 ∃ num n2 vn' va' vm',e = .returned (.int .i64 num)∧P3 W' w0.heap.size g s L (nodes ++ n2) (nodes ++ n2) (nodes ++ n2) (nodes ++ n2) vn' va' vm'∧Step g W vn va vm W' vn' va' vm'∧(∀ b ∈ n2.flatMap Nd.blks,W.heap.size≤b)∧Q num n2∧Below w0.heap.size w0 W'
theorem P3.fresh {W:World} {base g:Nat} {s:ByteArray} {L:Nat} {nl al ml nodes:List Nd} {vn va vm:Value} (h:P3 W base g s L nl al ml nodes vn va vm) {b:Nat} (hb:W.heap.size≤b):Apt g vn va vm b∧b ∉ nodes.flatMap Nd.blks :=
 ⟨⟨fun e=>by have:=blk_lt h.z;omega,fun e=>by have:=(h.n.lt b e).2;omega,fun e=>by have:=(h.a.lt b e).2;omega,fun e=>by have:=(h.m.lt b e).2;omega⟩,fun e=>by have:=h.lt b e;omega⟩
theorem own_empty {W:World} {base e:Nat} (hb:base≤W.heap.size):(W.alloc (.cells #[] e)).ownsRow base e 1 (.slice (some ⟨W.heap.size,0,none⟩) 0 0) 0 []:=World.ownsRow_made W #[] 0 hb (by decide) rfl
theorem inf3:(Tryz.prog.info? 3).map (fun i=>(i.zero,i.size,i.bytes))=some (some (.int .i64 0),1,8):=by kernel_rfl
theorem inf25:(Tryz.prog.info? 59).map (fun i=>(i.zero,i.size,i.bytes))=some (some (.slice none 0 0),1,24):=by kernel_rfl
theorem inf92:(Tryz.prog.info? 139).map (fun i=>(i.zero,i.size,i.bytes))=some (some (.slice none 0 0),1,24):=by kernel_rfl
theorem inf35:(Tryz.prog.info? 65).map (fun i=>(i.zero,i.size,i.bytes))=some (some (.agg #[.int .i64 0,.string ⟨#[]⟩,.slice none 0 0]),3,48):=by kernel_rfl
section
variable {P : Program} {ops : Array Oper} {rest : List Oper} {o : Oper} {a : Act} {Q : Exit → Act → World → Prop}
theorem make_event {W:World} (hgd:o.guard=none) {n:Nat} {cs:Array Value} {t:TypeId}
  (hrun:(execOp a.eval o).run P W = .ok (.value (.slice (some ⟨W.heap.size,0,none⟩) n n)) (W.alloc (.cells cs t (0,0))))
  (h:∀ b,b=W.heap.size→∀ w1,w1.heap[b]? = some (.cells cs t (0,0))→Below W.heap.size W w1→wpList P ops Q rest (a.put o.dst (.slice (some ⟨b,0,none⟩) n n)) w1):wpList P ops Q (o :: rest) a W :=
 Kd.event_run hgd hrun (h _ rfl _ (blk_new W _) (below_alloc (Below.refl _ _) _))
end
theorem made64 (m:Nat):madeCells #[Value.int .i64 0] m=(nums .i64 (List.replicate m 0)).toArray:=by
 simp only [madeCells,nums]
 apply Array.ext
 ·simp
 ·intro i h1 h2;simp [Nat.mod_one]
theorem last3 {W:World} {base e g n cap:Nat} {xs:List Value} {a b c:Value} (h:W.ownsRow base e 3 (.slice (some ⟨g,0,none⟩) (n+1) cap) (n+1) (xs ++ [a,b,c])) (hx:xs.length=n * 3) :
  W.cell? ⟨g,n * 3,none⟩=some a∧W.cell? ⟨g,n * 3+1,none⟩=some b∧W.cell? ⟨g,n * 3+2,none⟩=some c∧(∃ cur,W.heap[g]? = some (.cells cur e (0,0))) ∧
  ∀ a' b' c':Value,(((W.setCell ⟨g,n * 3,none⟩ a').setCell ⟨g,n * 3+1,none⟩ b').setCell ⟨g,n * 3+2,none⟩ c').ownsRow base e 3 (.slice (some ⟨g,0,none⟩) (n+1) cap) (n+1) (xs ++ [a',b',c']):=by
 have c_:∀ j u,(xs ++ [a,b,c])[j]? = some u→W.cell? ⟨g,j,none⟩=some u:=fun j u hu=>by
  have:=h.cells (g:=g) rfl j u hu
  rwa [add_plain] at this
 refine ⟨c_ _ _ (by simp [← hx]),c_ _ _ (by simp [← hx]),c_ _ _ (by simp [← hx]),own_typed h g rfl,fun a' b' c' => ?_⟩
 have h1:=(h.stored (n * 3) a').1
 have h2:=(h1.stored (n * 3+1) b').1
 have h3:=(h2.stored (n * 3+2) c').1
 have e1:(((xs ++ [a,b,c]).set (n * 3) a').set (n * 3+1) b').set (n * 3+2) c'=xs ++ [a',b',c']:=by
  rw [← hx]
  apply List.ext_getElem?
  intro j
  simp only [List.getElem?_set,List.getElem?_append,List.length_set,List.length_append,List.length_cons,List.length_nil]
  rcases Nat.lt_or_ge j xs.length with hj|hj
  ·simp [hj,show ¬ xs.length+2=j by omega,show ¬ xs.length+1=j by omega,show ¬ xs.length=j by omega]
  ·obtain ⟨d,rfl⟩:∃ d,j=xs.length+d:=⟨j - xs.length,by omega⟩
   match d with
   | 0=>simp
   | 1=>simp
   | 2=>simp
   | d+3=>simp
 rw [e1] at h3
 exact h3
theorem swap4 {W:World} {g g8:Nat} (hne:g ≠ g8) {cs:Array Value} {T:TypeId} (hg:W.heap[g]? = some (.cells cs T (0,0))) {cur:Array Value} {e:TypeId} (h8:W.heap[g8]? = some (.cells cur e (0,0))) (o o1 o2 o3:Nat) (u1 u2 u3 v:Value) (k:Nat) :
  ((((W.setCell ⟨g,o,none⟩ v).setCell ⟨g8,o1,none⟩ u1).setCell ⟨g8,o2,none⟩ u2).setCell ⟨g8,o3,none⟩ u3).heap[k]? = ((((W.setCell ⟨g8,o1,none⟩ u1).setCell ⟨g8,o2,none⟩ u2).setCell ⟨g8,o3,none⟩ u3).setCell ⟨g,o,none⟩ v).heap[k]?:=by
 by_cases h1:k=g
 ·subst h1
  rw [blk_far (blk_far (blk_far (blk_set hg o v) hne u1) hne u2) hne u3,blk_set (blk_far (blk_far (blk_far hg hne u1) hne u2) hne u3) o v]
 ·by_cases h2:k=g8
  ·subst h2
   have hne':=fun h=>hne (Eq.symm h)
   rw [blk_set (blk_set (blk_set (blk_far h8 hne' v) o1 u1) o2 u2) o3 u3,blk_far (blk_set (blk_set (blk_set h8 o1 u1) o2 u2) o3 u3) hne' v]
  ·have e1:∀ (w:World) (p:Addr) (u:Value),k ≠ p.block→(w.setCell p u).heap[k]? = w.heap[k]?:=fun w p u h=>Below.heap_setCell w p u k h
   rw [e1 _ _ _ h2,e1 _ _ _ h2,e1 _ _ _ h2,e1 _ _ _ h1,e1 _ _ _ h1,e1 _ _ _ h2,e1 _ _ _ h2,e1 _ _ _ h2]
theorem P3.congr {W W':World} {base g:Nat} {s:ByteArray} {L:Nat} {nl al ml nodes:List Nd} {vn va vm:Value} (h:P3 W base g s L nl al ml nodes vn va vm) (e:∀ k:Nat,W'.heap[k]? = W.heap[k]?):P3 W' base g s L nl al ml nodes vn va vm :=
 h.move (e _) (fun k _=>e k) (fun k _=>e k) (fun k _=>e k) (fun k _=>e k)
theorem grow_put3 {W W8:World} {un v8:Value} {g8:Nat} (hv:v8.ownBlock=some g8) (G8:W.grownBy W8 un.ownBlock) (T8:v8.ownBlock=un.ownBlock∨∃ b,v8.ownBlock=some b∧W.heap.size≤b) (o1 o2 o3:Nat) (u1 u2 u3:Value) :
  W.grownBy (((W8.setCell ⟨g8,o1,none⟩ u1).setCell ⟨g8,o2,none⟩ u2).setCell ⟨g8,o3,none⟩ u3) un.ownBlock:=by
 have h0:∀ k,k < W.heap.size→some k ≠ un.ownBlock→k ≠ g8:=fun k hk he e=>by
  subst e
  rcases T8 with h|⟨b,h,h2⟩
  ·exact he (hv.symm.trans h)
  ·rw [hv] at h;injection h with h;omega
 refine ⟨G8.os,G8.tape,G8.output,by simpa using G8.size,fun k hk he=>?_⟩
 have hne:=h0 k hk he
 rw [Below.heap_setCell _ _ _ k hne,Below.heap_setCell _ _ _ k hne,Below.heap_setCell _ _ _ k hne]
 exact G8.block k hk he
theorem Step.congr {g:Nat} {W W' W2:World} {vn va vm vn' va' vm':Value} (h:Step g W vn va vm W' vn' va' vm') (e:∀ k:Nat,W2.heap[k]? = W'.heap[k]?) (hs:W2.heap.size=W'.heap.size):Step g W vn va vm W2 vn' va' vm' :=
 ⟨hs ▸ h.sz,fun k hk ha=>(e k).trans (h.fr k hk ha),h.n,h.a,h.m⟩
theorem leaf_n {W W8 w0:World} {g:Nat} {s:ByteArray} {L:Nat} {nl al ml nodes:List Nd} {un ua um:Value} {g8 cap8 N:Nat} (x:Nd) (PA:P3 W w0.heap.size g s L nl al ml nodes un ua um) (hN:nl.length=N) (hb8:w0.heap.size≤g8) (hgb:w0.heap.size≤g) (u1 u2 u3:Value)
  (own:(((W8.setCell ⟨g8,N * 3,none⟩ u1).setCell ⟨g8,N * 3+1,none⟩ u2).setCell ⟨g8,N * 3+2,none⟩ u3).ownsRow w0.heap.size 65 3 (.slice (some ⟨g8,0,none⟩) (N+1) cap8) (N+1) (nl.flatMap Nd.cells ++ [u1,u2,u3])) (hx:x.cells = [u1,u2,u3]) (hne:g ≠ g8) {cur8:Array Value} (C8:W8.heap[g8]? = some (.cells cur8 65 (0,0))) {cs:Array Value} {T:TypeId} (H8:W8.heap[g]? = some (.cells cs T (0,0)))
  (G8:W.drew.grownBy W8 un.ownBlock) (T8:(Value.slice (some ⟨g8,0,none⟩) (N+1) cap8).ownBlock=un.ownBlock∨∃ b,(Value.slice (some ⟨g8,0,none⟩) (N+1) cap8).ownBlock=some b∧W.drew.heap.size≤b) (B8:Below w0.heap.size w0 W8) :
  (P3 ((((W8.setCell ⟨g8,N * 3,none⟩ u1).setCell ⟨g8,N * 3+1,none⟩ u2).setCell ⟨g8,N * 3+2,none⟩ u3).setCell ⟨g,1,none⟩ (.slice (some ⟨g8,0,none⟩) (N+1) cap8)) w0.heap.size g s L (nl ++ [x]) al ml nodes (.slice (some ⟨g8,0,none⟩) (N+1) cap8) ua um∧Step g W un ua um ((((W8.setCell ⟨g8,N * 3,none⟩ u1).setCell ⟨g8,N * 3+1,none⟩ u2).setCell ⟨g8,N * 3+2,none⟩ u3).setCell ⟨g,1,none⟩ (.slice (some ⟨g8,0,none⟩) (N+1) cap8)) (.slice (some ⟨g8,0,none⟩) (N+1) cap8) ua um∧Below w0.heap.size w0 ((((W8.setCell ⟨g8,N * 3,none⟩ u1).setCell ⟨g8,N * 3+1,none⟩ u2).setCell ⟨g8,N * 3+2,none⟩ u3).setCell ⟨g,1,none⟩ (.slice (some ⟨g8,0,none⟩) (N+1) cap8))) ∧
  (P3 ((((W8.setCell ⟨g,1,none⟩ (.slice (some ⟨g8,0,none⟩) (N+1) cap8)).setCell ⟨g8,N * 3,none⟩ u1).setCell ⟨g8,N * 3+1,none⟩ u2).setCell ⟨g8,N * 3+2,none⟩ u3) w0.heap.size g s L (nl ++ [x]) al ml nodes (.slice (some ⟨g8,0,none⟩) (N+1) cap8) ua um∧Step g W un ua um ((((W8.setCell ⟨g,1,none⟩ (.slice (some ⟨g8,0,none⟩) (N+1) cap8)).setCell ⟨g8,N * 3,none⟩ u1).setCell ⟨g8,N * 3+1,none⟩ u2).setCell ⟨g8,N * 3+2,none⟩ u3) (.slice (some ⟨g8,0,none⟩) (N+1) cap8) ua um∧Below w0.heap.size w0 ((((W8.setCell ⟨g,1,none⟩ (.slice (some ⟨g8,0,none⟩) (N+1) cap8)).setCell ⟨g8,N * 3,none⟩ u1).setCell ⟨g8,N * 3+1,none⟩ u2).setCell ⟨g8,N * 3+2,none⟩ u3)):=by
 have g1:=grow_put3 (v8:=.slice (some ⟨g8,0,none⟩) (N+1) cap8) rfl G8 T8 (N * 3) (N * 3+1) (N * 3+2) u1 u2 u3
 have r0:=(PA.congr (W':=W.drew) fun _=>rfl).grow_n x (by rw [hN,hx];exact own) g1 T8
 have r:=And.intro r0.1 (show Step g W un ua um _ _ ua um from ⟨r0.2.sz,r0.2.fr,r0.2.n,r0.2.a,r0.2.m⟩)
 have sw:=swap4 hne H8 C8 1 (N * 3) (N * 3+1) (N * 3+2) u1 u2 u3 (.slice (some ⟨g8,0,none⟩) (N+1) cap8)
 exact ⟨⟨r.1,r.2,(((B8.setCell hb8 _).setCell hb8 _).setCell hb8 _).setCell hgb _⟩,⟨r.1.congr sw,r.2.congr sw (by simp),(((B8.setCell hgb _).setCell hb8 _).setCell hb8 _).setCell hb8 _⟩⟩
theorem add_walk (w0:World) (g:Nat) (s:ByteArray) (L:Nat) (hsL:s.size+1=L) (hL:L≤401) (k:Int) (bs:ByteArray) (xs:List S65) (A:Option Addr) (c:Nat) (hC:Kd.C k65 w0 A xs.length xs) (hc:xs.length≤c) (hx2:xs.length≤2)
  (nodes:List Nd) (vn va vm:Value) (W:World) (hP:P3 W w0.heap.size g s L nodes nodes nodes nodes vn va vm) (hgb:w0.heap.size≤g) (hB:Below w0.heap.size w0 W)
  (E:Nat→List Int→List Nd→Prop) (hE0:E 0 [] []) (hEn:∀ kk ars nn,E kk ars nn→ars.length=kk∧nodes.length+nn.length≤1000)
  (hch:∀ (kk:Nat) (h:kk < xs.length) (ars:List Int) (nn:List Nd),E kk ars nn→∀ (A2:Option Addr) (c2:Nat) (un ua um:Value) (W':World),xs[kk].f2.length≤c2→Kd.C k65 w0 A2 xs[kk].f2.length xs[kk].f2→P3 W' w0.heap.size g s L (nodes ++ nn) (nodes ++ nn) (nodes ++ nn) (nodes ++ nn) un ua um→Below w0.heap.size w0 W' →
   Calls Tryz.prog 133 #[.pointer (some ⟨g,0,none⟩),.agg #[.int .i64 xs[kk].f0,.string xs[kk].f1,.slice A2 xs[kk].f2.length c2]] W' (APost w0 W' g s L (nodes ++ nn) un ua um (fun num n2=>E (kk+1) (ars ++ [num]) (nn ++ n2)))) :
  Calls Tryz.prog 133 #[.pointer (some ⟨g,0,none⟩),.agg #[.int .i64 k,.string bs,.slice A xs.length c]] W (APost w0 W g s L nodes vn va vm (fun num n2=>∃ ars nn x,n2=nn ++ [x]∧num=((nodes.length+nn.length:Nat):Int)∧E xs.length ars nn∧x.k=k∧x.l=bs∧x.ars=ars)):=by
 subst hsL
 have HC:=zk hC
 have HP:=zk hP
 have HB:=zk hB
 have HE0:=zk hE0
 have HB0:=zk hB
 have HEn:=zk hEn
 have HCH:=zk hch
 clear hC hP hB hE0 hEn hch
 go_enter Tryz.func133,Tryz.ntmps133
 go_wp2_with (first
  | ((with_reducible refine gate_dst (N:=3) rfl ?_);refine zE (N:=3) (cs:=#[.int .i64 k,.string bs,.slice A xs.length c]) (t:=65) ?_;intro gx hgx w3 hbox hb3;have X3:=zk hbox;have P3':=zk (HP.out.below hb3);have B3:=zk (below_step HB.out hb3);have S3:=zk (Step.below (g:=g) (vn:=vn) (va:=va) (vm:=vm) hb3);have G3:=zk (show W.heap.size≤gx by omega);clear hb3 hbox hgx))
 have R3:=zk (own_empty (W:=w3) (base:=w0.heap.size) (e:=3) B3.out.size)
 have Q3:Aside0 (∀ b,(Value.slice (some ⟨w3.heap.size,0,none⟩) 0 0).ownBlock=some b→W.heap.size≤b∧Apt g vn va vm b∧b ∉ (nodes ++ []).flatMap Nd.blks):=⟨fun b hb=>by
  obtain rfl:w3.heap.size=b:=by simpa [Value.ownBlock] using hb
  have:=P3'.out.fresh (Nat.le_refl w3.heap.size)
  exact ⟨S3.out.sz,this.1,by simpa using this.2⟩⟩
 have hb4:=below_alloc (Below.refl w3.heap.size w3) (.cells #[] 3)
 have P4:=zk (P3'.out.below hb4)
 have B4:=zk (below_step B3.out hb4)
 have S4:=zk (S3.out.trans (Step.below hb4))
 have X4:=zk (blk_below X3.out hb4)
 have A4:=zk (HP.out.fresh G3.out).1
 clear X3 P3' B3 S3 hb4
 generalize w3.alloc (.cells #[] 3)=w4 at *
 generalize (Value.slice (some ⟨w3.heap.size,0,none⟩) 0 0)=v4 at *
 go_loopg [5,6] xs.length (fun kq v5 v6 w'=>∃ (kk:Nat) (ars:List Int) (nn:List Nd) (un ua um:Value),v6 = .int .i64 (kk:Int)∧Aside0 (kk+kq=xs.length)∧Aside0 (E kk ars nn)∧Aside0 (w'.ownsRow w0.heap.size 3 1 v5 ars.length (nums .i64 ars))∧Aside0 (∀ b,v5.ownBlock=some b→W.heap.size≤b∧Apt g un ua um b∧b ∉ (nodes ++ nn).flatMap Nd.blks)∧Aside0 (P3 w' w0.heap.size g s (s.size+1) (nodes ++ nn) (nodes ++ nn) (nodes ++ nn) (nodes ++ nn) un ua um)∧Aside0 (Step g W vn va vm w' un ua um)∧Aside0 (∀ b ∈ nn.flatMap Nd.blks,W.heap.size≤b)∧Aside0 (w'.heap[gx]? = some (.cells #[.int .i64 k,.string bs,.slice A xs.length c] 65 (0,0)))∧Aside0 (Apt g un ua um gx)∧Aside0 (Below w0.heap.size w0 w'))
 case atStart=>exact ⟨0,[],[],vn,va,vm,rfl,⟨by omega⟩,HE0,R3,Q3,by simpa using P4,S4,⟨by simp⟩,X4,A4,B4⟩
 case round =>
  clear R3 Q3 P4 S4 X4 A4 B4 HP HB HE0
  obtain ⟨kk,ars,nn,un,ua,um,rfl,HK,HE,HR,HQ,HP,HS,HF,HX,HA,HB⟩:=hrel
  obtain ⟨y0,y1,y2,g0,g1,g2⟩:=blk3 HX.out
  by_cases hlt:kk < xs.length
  ·obtain ⟨ad,A2,c2,hA,e0,e1,e2,h3,h4⟩:=arg_at HC.out HB.out kk hlt
   have CH:=zk (HCH.out kk hlt ars nn HE.out A2 c2 un ua um wr h3 h4 HP.out HB.out)
   have hl9:=HEn.out kk ars nn HE.out
   have HL9:=zk hl9
   have HLT:=zk hlt
   have hd:decide (kk < xs.length)=true:=decide_eq_true hlt
   have q1:=eq_true hlt
   have hk9:kk≤2:=by omega
   generalize hxk:xs[kk]=xk at *
   subst hA
   clear hlt h3 h4 hl9 hxk
   cases gk with
   | zero=>exact absurd HK.out (by have:=HLT.out;omega)
   | succ k1 =>
    go_wp2_with (first
     | (go_at_call 133;(with_reducible refine CH.out.mono ?_);rintro e w7 ⟨num,n2,un2,ua2,um2,rfl,P7,S7,F7,E7,B7⟩;have P7':=zk P7;have F7':=zk F7;have E7':=zk E7;have S7':=zk (HS.out.trans S7);have R7:=zk (own_move HR.out fun b hb=>S7.fr b (HR.out.lt b hb).2 (HQ.out b hb).2.1);have Q7:Aside0 (∀ b,u5.ownBlock=some b→W.heap.size≤b∧Apt g un2 ua2 um2 b∧b ∉ (nodes ++ nn ++ n2).flatMap Nd.blks):=⟨fun b hb=>⟨(HQ.out b hb).1,S7.apt (HR.out.lt b hb).2 (HQ.out b hb).2.1,fun h=>by rw [List.flatMap_append] at h;rcases List.mem_append.1 h with h|h;exact (HQ.out b hb).2.2 h;have:=F7 b h;have:=(HR.out.lt b hb).2;omega⟩⟩;have X7:=zk ((S7.fr gx (blk_lt HX.out) HA.out).trans HX.out);have A7:=zk (S7.apt (blk_lt HX.out) HA.out);have B7':=zk B7;have Z7:=zk S7.sz;clear P7 S7 F7 E7 B7 y0 y1 y2 g0 g1 g2 e0 e1 e2)
     | (at_builtin;refine print_append_cells (w0:=w0) w0.heap.size rfl (.tmp 17) (.tmp 25) 59 3 (.int .i64 0) 1 8 rfl Tryz.underlying59 inf3 rfl (by decide) (by decide) u5 ars.length (nums .i64 ars) [.int .i64 num] rfl rfl rfl (by intro u hu;rw [List.mem_singleton.1 hu];rfl) R7.out B7'.out (B7'.out.size) (by have:=HL9.out;omega) ?_;intro v8 w8 hown8 hb8 hg8 hat8;have R8:Aside0 (w8.ownsRow w0.heap.size 3 1 v8 (ars ++ [num]).length (nums .i64 (ars ++ [num]))):=⟨by rw [nums_append,List.length_append];exact hown8⟩;have P8:=zk (P7'.out.row hg8 fun b hb=>(Q7.out b hb).2);have S8:=zk (Step.row hg8 (fun b hb=>(Q7.out b hb).1) S7'.out);have Q8:Aside0 (∀ b,v8.ownBlock=some b→W.heap.size≤b∧Apt g un2 ua2 um2 b∧b ∉ (nodes ++ nn ++ n2).flatMap Nd.blks):=⟨fun b hb=>by rcases hat8 with h|⟨b1,h,h2⟩;exact Q7.out b (h.symm.trans hb);rw [h] at hb;injection hb with hb;subst hb;exact ⟨Nat.le_trans S7'.out.sz h2,P7'.out.fresh h2⟩⟩;have X8:=zk (blk_grown X7.out hg8 (own_ne R7.out X7.out (by decide)));have B8:=zk hb8;clear hown8 hb8 hg8 hat8))
    go_roundg k1
    case measure=>omega
    case rel=>exact ⟨kk+1,ars ++ [num],nn ++ n2,un2,ua2,um2,za54,⟨by have:=HK.out;omega⟩,E7',R8,⟨by rw [← List.append_assoc];exact Q8.out⟩,⟨by rw [← List.append_assoc];exact P8.out⟩,S8,⟨fun b hb=>by
     rw [List.flatMap_append] at hb
     rcases List.mem_append.1 hb with hb|hb
     ·exact HF.out b hb
     ·exact Nat.le_trans HS.out.sz (F7'.out b hb)⟩,X8,A7,B8⟩
  ·have hkk:kk=xs.length:=by have:=HK.out;omega
   subst hkk
   have hd:decide (xs.length < xs.length)=false:=by simp
   clear hlt HCH
   go_wp2
   have hb4:=below_alloc (Below.refl wr.heap.size wr) (.cells #[] 59)
   have R4:=zk (own_empty (W:=wr) (base:=w0.heap.size) (e:=59) HB.out.size)
   have Q4:Aside0 (∀ b,(Value.slice (some ⟨wr.heap.size,0,none⟩) 0 0).ownBlock=some b→W.heap.size≤b∧Apt g un ua um b∧b ∉ (nodes ++ nn).flatMap Nd.blks∧u5.ownBlock ≠ some b):=⟨fun b hb=>by
    obtain rfl:wr.heap.size=b:=by simpa [Value.ownBlock] using hb
    have:=HP.out.fresh (Nat.le_refl wr.heap.size)
    exact ⟨HS.out.sz,this.1,this.2,fun e=>by have:=(HR.out.lt _ e).2;omega⟩⟩
   have P4:=zk (HP.out.below hb4)
   have B4:=zk (below_step HB.out hb4)
   have S4:=zk (HS.out.trans (Step.below hb4))
   have X4:=zk (blk_below HX.out hb4)
   have R5:=zk (HR.out.alloc (.cells #[] 59))
   clear HP HB HS HX HR hb4 y0 y1 y2 g0 g1 g2
   generalize wr.alloc (.cells #[] 59)=w4 at *
   generalize (Value.slice (some ⟨wr.heap.size,0,none⟩) 0 0)=v4 at *
   go_loopg [7,8] (s.size+1) (fun kq v7 v8 w'=>∃ (ii:Nat) (rows:List Nat),v8 = .int .i64 (ii:Int)∧Aside0 (ii+kq=s.size+1)∧Aside0 (rows.length=ii)∧Aside0 (w'.ownsRow w0.heap.size 59 1 v7 ii (rows.map fun b => .slice (some ⟨b,0,none⟩) (s.size+1) (s.size+1)))∧Aside0 (∀ b,v7.ownBlock=some b→W.heap.size≤b∧Apt g un ua um b∧b ∉ (nodes ++ nn).flatMap Nd.blks∧u5.ownBlock ≠ some b)∧Aside0 (∀ b ∈ rows,(W.heap.size≤b∧Apt g un ua um b∧b ∉ (nodes ++ nn).flatMap Nd.blks∧u5.ownBlock ≠ some b)∧w'.heap[b]? = some (.cells (nums .i64 (List.replicate (s.size+1) 0)).toArray 3 (0,0)))∧Aside0 rows.Nodup∧Aside0 (P3 w' w0.heap.size g s (s.size+1) (nodes ++ nn) (nodes ++ nn) (nodes ++ nn) (nodes ++ nn) un ua um)∧Aside0 (Step g W vn va vm w' un ua um)∧Aside0 (w'.ownsRow w0.heap.size 3 1 u5 ars.length (nums .i64 ars))∧Aside0 (w'.heap[gx]? = some (.cells #[.int .i64 k,.string bs,.slice A xs.length c] 65 (0,0)))∧Aside0 (Below w0.heap.size w0 w'))
   case atStart=>exact ⟨0,[],rfl,⟨by omega⟩,⟨rfl⟩,R4,Q4,⟨by simp⟩,⟨by simp⟩,P4,S4,R5,X4,B4⟩
   case round =>
    clear R4 Q4 P4 S4 R5 X4 B4
    obtain ⟨ii,rows,rfl,HI,HL,HR,HQ2,HW,HD,HP,HS,HR5,HX,HB⟩:=hrel
    obtain ⟨z0,z1,z2,z3,f0,f1,f2,f3⟩:=blk4 HP.out.z
    by_cases hle:ii≤s.size
    ·have hd2:decide (ii≤s.size)=true:=decide_eq_true hle
     have HLE:=zk hle
     have hi9:ii≤401:=by omega
     clear hle
     have hs9:s.size≤400:=by omega
     have hmk:∀ W:World,(Instr.makeSlice 59 (.int .i64 ((s.size:Int)+1)) (.int .i64 ((s.size:Int)+1))).run Tryz.prog W = .ok (.slice (some ⟨W.heap.size,0,none⟩) (s.size+1) (s.size+1)) (W.alloc (.cells (nums .i64 (List.replicate (s.size+1) 0)).toArray 3)):=fun W=>by
      have:=print_make_int (P:=Tryz.prog) 59 3 (.int .i64 0) 8 Tryz.underlying59 inf3 rfl (by decide) ((s.size+1:Nat):Int) (by omega) (by simp only [Int.toNat_natCast];omega) W
      rw [made64] at this
      simp only [Int.toNat_natCast] at this
      rw [show ((s.size+1:Nat):Int)=(s.size:Int)+1 by omega] at this
      exact this
     cases gk with
     | zero=>exact absurd HI.out (by have:=HLE.out;omega)
     | succ k2 =>
      go_wp2_with (first
       | ((with_reducible refine gate_dst (N:=44) rfl ?_);refine make_event ?hg (n:=s.size+1) (cs:=(nums .i64 (List.replicate (s.size+1) 0)).toArray) (t:=3) ?hr ?_;(case hg=>rfl);(case hr=>first|(go_simp;done)|(go_simp;rfl));intro b hbe w7 hb7 hbb;have N7:=zk hb7;have R7:=zk (pw_own_below HR.out hbb);have M7:Aside0 (W.heap.size≤b∧Apt g un ua um b∧b ∉ (nodes ++ nn).flatMap Nd.blks∧u5.ownBlock ≠ some b):=⟨by rw [hbe];exact ⟨HS.out.sz,(HP.out.fresh (Nat.le_refl _)).1,(HP.out.fresh (Nat.le_refl _)).2,fun e=>by have:=(HR5.out.lt _ e).2;omega⟩⟩;have NN:Aside0 (b ∉ rows):=⟨fun h=>by have:=blk_lt (HW.out b h).2;omega⟩;have W7:Aside0 (∀ b ∈ rows,(W.heap.size≤b∧Apt g un ua um b∧b ∉ (nodes ++ nn).flatMap Nd.blks∧u5.ownBlock ≠ some b)∧w7.heap[b]? = some (.cells (nums .i64 (List.replicate (s.size+1) 0)).toArray 3 (0,0))):=⟨fun q hq=>⟨(HW.out q hq).1,blk_below (HW.out q hq).2 hbb⟩⟩;have P7:=zk (HP.out.below hbb);have S7:=zk (HS.out.trans (Step.below hbb));have RR7:=zk (pw_own_below HR5.out hbb);have X7:=zk (blk_below HX.out hbb);have B7:=zk (below_step HB.out hbb);clear hbe hb7 hbb z0 z1 z2 z3 f0 f1 f2 f3)
       | (at_builtin;refine print_append_cells (w0:=w0) w0.heap.size rfl (.tmp 37) (.tmp 45) 139 59 (.slice none 0 0) 1 24 rfl Tryz.underlying139 inf25 rfl (by decide) (by decide) u7 ii (rows.map fun b => .slice (some ⟨b,0,none⟩) (s.size+1) (s.size+1)) [.slice (some ⟨b,0,none⟩) (s.size+1) (s.size+1)] rfl rfl rfl (by intro u hu;rw [List.mem_singleton.1 hu];rfl) R7.out B7.out B7.out.size (by have:=HLE.out;omega) ?_;intro v8 w8 hown8 hb8 hg8 hat8;have hne:∀ q e n' vv ys,w7.ownsRow w0.heap.size e n' vv q ys→e ≠ 59→vv.ownBlock=none∨vv.ownBlock ≠ u7.ownBlock:=fun q e n' vv ys h he=>own_type_ne h R7.out he;have R8:=zk hown8;have P8:=zk (P7.out.row hg8 fun q hq=>⟨(HQ2.out q hq).2.1,(HQ2.out q hq).2.2.1⟩);have S8:=zk (Step.row hg8 (fun q hq=>(HQ2.out q hq).1) S7.out);have RR8:=zk (RR7.out.kept hg8 (hne _ _ _ _ _ RR7.out (by decide)));have X8:=zk (blk_grown X7.out hg8 (own_ne R7.out X7.out (by decide)));have B8:=zk hb8;have Q8:Aside0 (∀ b,v8.ownBlock=some b→W.heap.size≤b∧Apt g un ua um b∧b ∉ (nodes ++ nn).flatMap Nd.blks∧u5.ownBlock ≠ some b):=⟨fun q hq=>by rcases hat8 with h|⟨b1,h,h2⟩;exact HQ2.out q (h.symm.trans hq);rw [h] at hq;injection hq with hq;subst hq;exact ⟨Nat.le_trans S7.out.sz h2,(P7.out.fresh h2).1,(P7.out.fresh h2).2,fun e=>by have:=(RR7.out.lt _ e).2;omega⟩⟩;have W8:Aside0 (∀ q ∈ rows ++ [b],(W.heap.size≤q∧Apt g un ua um q∧q ∉ (nodes ++ nn).flatMap Nd.blks∧u5.ownBlock ≠ some q)∧w8.heap[q]? = some (.cells (nums .i64 (List.replicate (s.size+1) 0)).toArray 3 (0,0))):=⟨fun q hq=>by rcases List.mem_append.1 hq with hq|hq;exact ⟨(W7.out q hq).1,blk_grown (W7.out q hq).2 hg8 (own_ne R7.out (W7.out q hq).2 (by decide))⟩;rw [List.mem_singleton.1 hq];exact ⟨M7.out,blk_grown N7.out hg8 (own_ne R7.out N7.out (by decide))⟩⟩;clear hown8 hb8 hg8 hat8 hne))
      clear hmk
      go_roundg k2
      case measure=>omega
      case rel=>exact ⟨ii+1,rows ++ [b],za54,⟨by have:=HI.out;omega⟩,⟨by rw [List.length_append,HL.out];rfl⟩,⟨by rw [List.map_append];exact R8.out⟩,Q8,W8,⟨by
       rw [List.nodup_append]
       refine ⟨HD.out,by simp,fun x hx y hy e=>?_⟩
       rw [List.mem_singleton.1 hy] at e
       subst e
       exact NN.out hx⟩,P8,S8,RR8,X8,B8⟩
    ·have hie:ii=s.size+1:=by have:=HI.out;omega
     have hd2:decide (ii≤s.size)=false:=decide_eq_false hle
     subst hie
     clear hle
     obtain ⟨aA,ac,hu5⟩:=own_slice HR5.out
     obtain ⟨tb,tc,hu7,_,_⟩:=HR.out.form (by omega)
     subst hu5 hu7
     have hsep:∀ b,W.heap.size≤b∧Apt g un ua um b∧b ∉ (nodes ++ nn).flatMap Nd.blks∧(Value.slice aA ars.length ac).ownBlock ≠ some b→Apt g un ua um b∧b ∉ (nodes ++ nn).flatMap Nd.blks∧W.heap.size≤b:=fun b h=>⟨h.2.1,h.2.2.1,h.1⟩
     obtain ⟨x,hx⟩:∃ x:Nd,x=⟨k,bs,.slice A xs.length c,ars,aA,ac,tb,tc,rows⟩:=⟨_,rfl⟩
     have hxb:∀ b ∈ x.blks,Apt g un ua um b∧b ∉ (nodes ++ nn).flatMap Nd.blks∧W.heap.size≤b:=fun b hb=>by
      subst hx
      simp only [Nd.blks,List.mem_append,List.mem_cons,Option.mem_toList] at hb
      rcases hb with hb|rfl|hb
      ·have:=HQ.out b hb;exact ⟨this.2.1,this.2.2,this.1⟩
      ·exact hsep _ (HQ2.out _ rfl)
      ·exact hsep _ (HW.out _ hb).1
     have hxn:x.blks.Nodup:=by
      subst hx
      simp only [Nd.blks]
      rw [List.nodup_append]
      refine ⟨by cases aA <;> simp [Nd.av,Value.ownBlock],?_,?_⟩
      ·rw [List.nodup_cons]
       exact ⟨fun h=>own_ne HR.out (HW.out _ h).2 (by decide) rfl,HD.out⟩
      ·intro p hp q hq e
       subst e
       have hp':(Value.slice aA ars.length ac).ownBlock=some p:=by simpa [Nd.av] using hp
       rcases List.mem_cons.1 hq with h|h
       ·subst h;exact (HQ2.out _ rfl).2.2.2 hp'
       ·exact (HW.out _ h).1.2.2.2 hp'
     have hxo:NOk wr w0.heap.size (s.size+1) x:=by
      subst hx
      exact ⟨HR5.out,HR.out,HL.out,fun b hb=>⟨Nat.le_trans (Nat.le_trans HB0.out.size (Nat.le_refl _)) (HW.out b hb).1.1,(HW.out b hb).2⟩⟩
     have PA:=zk (HP.out.add x hxo hxn (fun b hb=>(hxb b hb).2.1) (fun b hb=>(hxb b hb).1))
     have HXB:=zk (fun b (hb:b ∈ x.blks)=>(hxb b hb).2.2)
     have HXE:=zk hx
     clear hsep hxb hxn hxo hx HQ2 HW HD HQ HP HR HR5 HL
     have hl9:=(HEn.out xs.length ars nn HE.out).2
     go_upto_region 11 with (fail)
     go_cut [] (fun wc=>∃ un2,Aside0 (P3 wc w0.heap.size g s (s.size+1) (nodes ++ nn ++ [x]) (nodes ++ nn) (nodes ++ nn) (nodes ++ nn ++ [x]) un2 ua um)∧Aside0 (Step g W vn va vm wc un2 ua um)∧Aside0 (Below w0.heap.size w0 wc))
     case first =>
      obtain ⟨y0,y1,y2,g0,g1,g2⟩:=blk3 HX.out
      obtain ⟨N,hN⟩:∃ N,(nodes ++ nn).length=N:=⟨_,rfl⟩
      have PN:wr.ownsRow w0.heap.size 65 3 un N ((nodes ++ nn).flatMap Nd.cells):=by rw [← hN];exact PA.out.n
      have hN9:N≤1000:=by rw [← hN,List.length_append];omega
      have HNN:=zk hN
      clear hN hl9
      obtain ⟨Aun,cun,hun⟩:=own_slice PN
      subst hun
      obtain ⟨z0,z1,z2,z3,f0,f1,f2,f3⟩:=blk4 PA.out.z
      have l1:gx < wr.heap.size:=blk_lt HX.out
      have l2:g < wr.heap.size:=blk_lt PA.out.z
      have HN11:=zk PN
      have qN:((N:Int) < (N:Int)+1)=True:=eq_true (by omega)
      clear PN
      go_region_law (refine step_append_cells (W:=wr.drew) (w0:=w0) w0.heap.size rfl (.tmp 50) (.tmp 53) 63 65 (.agg #[.int .i64 0,.string ⟨#[]⟩,.slice none 0 0]) 3 48 rfl Tryz.underlying63 inf35 rfl (by decide) (by decide) (.slice Aun N cun) N ((nodes ++ nn).flatMap Nd.cells) [.int .i64 0,.string ⟨#[]⟩,.slice none 0 0] rfl rfl rfl (by intro u hu;simp at hu;rcases hu with rfl|rfl|rfl <;> rfl) HN11.out (below_drew HB.out) HB.out.size (by omega) ?_;intro v8 w8 hown8 hb8 hg8 hat8;obtain ⟨g8,cap8,hv8,L8,_⟩:=hown8.form (by omega);subst hv8;obtain ⟨p0,p1,p2,⟨cur8,hc8⟩,hst8⟩:=last3 hown8 HN11.out.1;have hg8':w8.heap[g]? = _:=(hg8.block g l2 (own_ne HN11.out PA.out.z (by decide))).trans PA.out.z;have hne8:g ≠ g8:=blk_ne hg8' hc8 (by decide);have r0:=blk_frozen hc8 (N * 3);have r1:=blk_frozen hc8 (N * 3+1);have r2:=blk_frozen hc8 (N * 3+2);clear z0 z1 z2 z3 f0 f1 f2 f3 y0 y1 y2 g0 g1 g2;obtain ⟨z0,z1,z2,z3,f0,f1,f2,f3⟩:=blk4 hg8';have O8:=zk hown8;have B8:=zk hb8;have G8:=zk hg8;have T8:=zk hat8;have C8:=zk hc8;have H8:=zk hg8';have S8:=zk hst8;clear hown8 hb8 hg8 hat8 hc8 hg8' hst8)
      all_goals (
       try go_wp2
       go_meet
       case rel =>
        have r:=leaf_n x PA.out HNN.out L8 hgb _ _ _ (S8.out (.int .i64 k) (.string bs) (.slice A xs.length c)) (by rw [HXE.out];rfl) hne8 C8.out H8.out G8.out T8.out B8.out
        first
         | exact ⟨_,⟨r.1.1⟩,⟨HS.out.trans r.1.2.1⟩,⟨r.1.2.2⟩⟩
         | exact ⟨_,⟨r.2.1⟩,⟨HS.out.trans r.2.2.1⟩,⟨r.2.2.2⟩⟩)
     case rest =>
      clear z0 z1 z2 z3 f0 f1 f2 f3 PA HS HB
      obtain ⟨un2,PB,SB,BB⟩:=hcut
      obtain ⟨N,hN⟩:∃ N,(nodes ++ nn).length=N:=⟨_,rfl⟩
      have hN9:N≤1000:=by rw [← hN,List.length_append];omega
      have HNN:=zk hN
      have PBA:wc.ownsRow w0.heap.size 59 1 ua N ((nodes ++ nn).map Nd.av):=by rw [← hN];exact PB.out.a
      replace PBA:=zk PBA
      clear hN hl9
      obtain ⟨Aua,cua,hua⟩:=own_slice PBA.out
      subst hua
      obtain ⟨z0,z1,z2,z3,f0,f1,f2,f3⟩:=blk4 PB.out.z
      go_upto_region 13 with (first
       | (at_builtin;refine print_append_cells (w0:=w0) w0.heap.size rfl (.tmp 62) (.tmp 64) 139 59 (.slice none 0 0) 1 24 rfl Tryz.underlying139 inf25 rfl (by decide) (by decide) (.slice Aua N cua) N ((nodes ++ nn).map Nd.av) [(.slice aA ars.length ac)] rfl rfl rfl (by intro u hu;rw [List.mem_singleton.1 hu];rfl) PBA.out BB.out BB.out.size (by omega) ?_;intro va8 w8 hown8 hb8 hg8 hat8;obtain ⟨Ava8,cva8,hv8⟩:=own_slice hown8;subst hv8;have G8:=zk (PB.out.grow_a x (by rw [HNN.out,HXE.out];exact hown8) hg8 hat8);have B8:=zk hb8;have hg8':=(hg8.block g (blk_lt PB.out.z) (own_ne PBA.out PB.out.z (by decide))).trans PB.out.z;clear z0 z1 z2 z3 f0 f1 f2 f3;obtain ⟨z0,z1,z2,z3,f0,f1,f2,f3⟩:=blk4 hg8';clear hg8' hown8 hb8 hg8 hat8))
      have PC:=zk G8.out.1
      have SC:=zk (SB.out.trans G8.out.2)
      have BC:=zk (show Below w0.heap.size w0 (w8.setCell ⟨g,2,none⟩ (.slice Ava8 (N+1) cva8)) from B8.out.setCell hgb _)
      clear z0 z1 z2 z3 f0 f1 f2 f3 G8 B8 PB SB BB PBA
      generalize w8.setCell ⟨g,2,none⟩ (.slice Ava8 (N+1) cva8)=w9 at *
      have PCM:w9.ownsRow w0.heap.size 139 1 um N ((nodes ++ nn).map (Nd.mv (s.size+1))):=by rw [← HNN.out];exact PC.out.m
      replace PCM:=zk PCM
      obtain ⟨Aum,cum,hum⟩:=own_slice PCM.out
      subst hum
      obtain ⟨z0,z1,z2,z3,f0,f1,f2,f3⟩:=blk4 PC.out.z
      go_upto_region 14 with (first
       | (at_builtin;refine print_append_cells (w0:=w0) w0.heap.size rfl (.tmp 72) (.tmp 74) 140 139 (.slice none 0 0) 1 24 rfl Tryz.underlying140 inf92 rfl (by decide) (by decide) (.slice Aum N cum) N ((nodes ++ nn).map (Nd.mv (s.size+1))) [(.slice (some ⟨tb,0,none⟩) (s.size+1) tc)] rfl rfl rfl (by intro u hu;rw [List.mem_singleton.1 hu];rfl) PCM.out BC.out BC.out.size (by omega) ?_;intro vm8 w8 hown8 hb8 hg8 hat8;obtain ⟨Avm8,cvm8,hv8⟩:=own_slice hown8;subst hv8;have G8:=zk (PC.out.grow_m x (by rw [HNN.out,HXE.out];exact hown8) hg8 hat8);have B8:=zk hb8;have hg8':=(hg8.block g (blk_lt PC.out.z) (own_ne PCM.out PC.out.z (by decide))).trans PC.out.z;clear z0 z1 z2 z3 f0 f1 f2 f3;obtain ⟨z0,z1,z2,z3,f0,f1,f2,f3⟩:=blk4 hg8';clear hg8' hown8 hb8 hg8 hat8))
      have PD:=zk G8.out.1
      have SD:=zk (SC.out.trans G8.out.2)
      have BD:=zk (show Below w0.heap.size w0 (w8.setCell ⟨g,3,none⟩ (.slice Avm8 (N+1) cvm8)) from B8.out.setCell hgb _)
      clear z0 z1 z2 z3 f0 f1 f2 f3 G8 B8 PC SC BC PCM
      generalize w8.setCell ⟨g,3,none⟩ (.slice Avm8 (N+1) cvm8)=w9 at *
      have PDN:w9.ownsRow w0.heap.size 65 3 un2 (N+1) ((nodes ++ nn ++ [x]).flatMap Nd.cells):=by rw [show N+1=(nodes ++ nn ++ [x]).length by rw [List.length_append,HNN.out];rfl];exact PD.out.n
      replace PDN:=zk PDN
      obtain ⟨Aun,cun,hun⟩:=own_slice PDN.out
      subst hun
      obtain ⟨z0,z1,z2,z3,f0,f1,f2,f3⟩:=blk4 PD.out.z
      go_wp2
      go_ret
      refine ⟨(N:Int),nn ++ [x],_,_,_,za54,by rw [← List.append_assoc];exact PD.out,SD.out,?_,⟨ars,nn,x,rfl,by rw [← HNN.out,List.length_append],HE.out,?_,?_,?_⟩,BD.out⟩
      ·intro b hb
       rw [List.flatMap_append] at hb
       rcases List.mem_append.1 hb with hb|hb
       ·exact HF.out b hb
       ·exact HXB.out b (by simpa using hb)
      all_goals rw [HXE.out]
def Nf:Rx→Nat→List Nd→Prop
 | .none,_,nn=>∃ x:Nd,nn = [x]∧x.k=1∧x.ars = []
 | .empty,_,nn=>∃ x:Nd,nn = [x]∧x.k=2∧x.ars = []
 | .any,_,nn=>∃ x:Nd,nn = [x]∧x.k=4∧x.ars = []
 | .letter b,_,nn=>∃ x:Nd,nn = [x]∧x.k=3∧x.l=b∧x.ars = []
 | .not t,p,nn=>∃ (n1:List Nd) (x:Nd),nn=n1 ++ [x]∧Nf t p n1∧x.k=9∧x.ars = [((p+t.size - 1:Nat):Int)]
 | .star t,p,nn=>∃ (n1:List Nd) (x:Nd),nn=n1 ++ [x]∧Nf t p n1∧x.k=8∧x.ars = [((p+t.size - 1:Nat):Int)]
 | .cat t u,p,nn=>∃ (n1 n2:List Nd) (x:Nd),nn=n1 ++ n2 ++ [x]∧Nf t p n1∧Nf u (p+t.size) n2∧x.k=5∧x.ars = [((p+t.size - 1:Nat):Int),((p+t.size+u.size - 1:Nat):Int)]
 | .or t u,p,nn=>∃ (n1 n2:List Nd) (x:Nd),nn=n1 ++ n2 ++ [x]∧Nf t p n1∧Nf u (p+t.size) n2∧x.k=6∧x.ars = [((p+t.size - 1:Nat):Int),((p+t.size+u.size - 1:Nat):Int)]
 | .and t u,p,nn=>∃ (n1 n2:List Nd) (x:Nd),nn=n1 ++ n2 ++ [x]∧Nf t p n1∧Nf u (p+t.size) n2∧x.k=7∧x.ars = [((p+t.size - 1:Nat):Int),((p+t.size+u.size - 1:Nat):Int)]
theorem Nf.len:∀ {t:Rx} {p:Nat} {nn:List Nd},Nf t p nn→nn.length=t.size:=by
 intro t
 induction t with
 | none=>rintro p nn ⟨x,rfl,_⟩;rfl
 | empty=>rintro p nn ⟨x,rfl,_⟩;rfl
 | any=>rintro p nn ⟨x,rfl,_⟩;rfl
 | letter b=>rintro p nn ⟨x,rfl,_⟩;rfl
 | not t ih=>rintro p nn ⟨n1,x,rfl,h,_⟩;simp only [List.length_append,List.length_cons,List.length_nil,Rx.size,ih h];omega
 | star t ih=>rintro p nn ⟨n1,x,rfl,h,_⟩;simp only [List.length_append,List.length_cons,List.length_nil,Rx.size,ih h];omega
 | cat t u iht ihu=>rintro p nn ⟨n1,n2,x,rfl,h,h',_⟩;simp only [List.length_append,List.length_cons,List.length_nil,Rx.size,iht h,ihu h'];omega
 | or t u iht ihu=>rintro p nn ⟨n1,n2,x,rfl,h,h',_⟩;simp only [List.length_append,List.length_cons,List.length_nil,Rx.size,iht h,ihu h'];omega
 | and t u iht ihu=>rintro p nn ⟨n1,n2,x,rfl,h,h',_⟩;simp only [List.length_append,List.length_cons,List.length_nil,Rx.size,iht h,ihu h'];omega
theorem APost.imp {w0 W:World} {g:Nat} {s:ByteArray} {L:Nat} {nodes:List Nd} {vn va vm:Value} {Q Q':Int→List Nd→Prop} {e:Ending} {W':World} (h:APost w0 W g s L nodes vn va vm Q e W') (hq:∀ num n2,Q num n2→Q' num n2):APost w0 W g s L nodes vn va vm Q' e W':=by
 obtain ⟨num,n2,vn',va',vm',h1,h2,h3,h4,h5,h6⟩:=h
 exact ⟨num,n2,vn',va',vm',h1,h2,h3,h4,hq _ _ h5,h6⟩
def AddAt (w0:World) (g:Nat) (s:ByteArray) (L:Nat) (x:S65) (t:Rx):Prop :=
 ∀ (A:Option Addr) (c:Nat) (nodes:List Nd) (vn va vm:Value) (W:World),x.f2.length≤c→Kd.C k65 w0 A x.f2.length x.f2→nodes.length+t.size≤1000→P3 W w0.heap.size g s L nodes nodes nodes nodes vn va vm→Below w0.heap.size w0 W →
  Calls Tryz.prog 133 #[.pointer (some ⟨g,0,none⟩),.agg #[.int .i64 x.f0,.string x.f1,.slice A x.f2.length c]] W (APost w0 W g s L nodes vn va vm fun num n2=>Nf t nodes.length n2∧num=((nodes.length+t.size - 1:Nat):Int))
section
variable (w0 : World) (g : Nat) (s : ByteArray) (L : Nat) (hsL : s.size + 1 = L) (hL : L ≤ 401) (hgb : w0.heap.size ≤ g)
include hsL hL hgb
theorem add_leaf (k:Int) (bs:ByteArray) (t:Rx) (hsz:t.size=1) (hN:∀ (p:Nat) (y:Nd),y.k=k→y.l=bs→y.ars = []→Nf t p [y]):AddAt w0 g s L ⟨k,bs,[]⟩ t:=by
 intro A c nodes vn va vm W hc hC h1 hP hB
 refine (add_walk w0 g s L hsL hL k bs [] A c hC hc (by simp) nodes vn va vm W hP hgb hB (fun kk ars nn=>kk=0∧ars = []∧nn = []) ⟨rfl,rfl,rfl⟩ ?_ ?_).mono ?_
 ·rintro kk ars nn ⟨rfl,rfl,rfl⟩
  exact ⟨rfl,by simp;omega⟩
 ·intro kk h
  exact absurd h (by simp)
 ·intro e W' h
  refine h.imp ?_
  rintro num n2 ⟨ars,nn,x,rfl,rfl,⟨_,rfl,rfl⟩,h1,h2,h3⟩
  exact ⟨hN _ _ h1 h2 h3,by rw [hsz];simp⟩
theorem add_one (k:Int) (bs:ByteArray) (y:S65) (t u:Rx) (hy:AddAt w0 g s L y u) (hsz:t.size=1+u.size) (hN:∀ (p:Nat) (n1:List Nd) (z:Nd),Nf u p n1→z.k=k→z.l=bs→z.ars = [((p+u.size - 1:Nat):Int)]→Nf t p (n1 ++ [z])):AddAt w0 g s L ⟨k,bs,[y]⟩ t:=by
 intro A c nodes vn va vm W hc hC h1 hP hB
 have hu:=u.size_pos
 refine (add_walk w0 g s L hsL hL k bs [y] A c hC hc (by simp) nodes vn va vm W hP hgb hB (fun kk ars nn=>(kk=0∧ars = []∧nn = [])∨(kk=1∧ars = [((nodes.length+u.size - 1:Nat):Int)]∧Nf u nodes.length nn)) (.inl ⟨rfl,rfl,rfl⟩) ?_ ?_).mono ?_
 ·rintro kk ars nn (⟨rfl,rfl,rfl⟩|⟨rfl,rfl,h⟩)
  ·exact ⟨rfl,by simp;omega⟩
  ·exact ⟨rfl,by rw [h.len];omega⟩
 ·intro kk h ars nn hE A2 c2 un ua um W' hc2 hC2 hP2 hB2
  obtain rfl:kk=0:=by simp at h;omega
  rcases hE with ⟨_,rfl,rfl⟩|⟨h,_⟩
  ·refine (hy A2 c2 (nodes ++ []) un ua um W' hc2 hC2 (by simp;omega) hP2 hB2).mono fun e W2 h=>h.imp ?_
   rintro num n2 ⟨h1,h2⟩
   exact .inr ⟨rfl,by simp [h2],by simpa using h1⟩
  ·exact absurd h (by decide)
 ·intro e W' h
  refine h.imp ?_
  rintro num n2 ⟨ars,nn,x,rfl,rfl,hE,h1,h2,h3⟩
  rcases hE with ⟨h,_⟩|⟨_,rfl,h⟩
  ·exact absurd h (by simp)
  ·exact ⟨hN _ _ _ h h1 h2 h3,by rw [hsz,h.len];congr 1;omega⟩
theorem add_two (k:Int) (bs:ByteArray) (y z:S65) (t u v:Rx) (hy:AddAt w0 g s L y u) (hz:AddAt w0 g s L z v) (hsz:t.size=1+u.size+v.size) (hN:∀ (p:Nat) (n1 n2:List Nd) (x:Nd),Nf u p n1→Nf v (p+u.size) n2→x.k=k→x.l=bs→x.ars = [((p+u.size - 1:Nat):Int),((p+u.size+v.size - 1:Nat):Int)]→Nf t p (n1 ++ n2 ++ [x])):AddAt w0 g s L ⟨k,bs,[y,z]⟩ t:=by
 intro A c nodes vn va vm W hc hC h1 hP hB
 have hu:=u.size_pos
 have hv:=v.size_pos
 refine (add_walk w0 g s L hsL hL k bs [y,z] A c hC hc (by simp) nodes vn va vm W hP hgb hB (fun kk ars nn=>(kk=0∧ars = []∧nn = [])∨(kk=1∧ars = [((nodes.length+u.size - 1:Nat):Int)]∧Nf u nodes.length nn)∨(kk=2∧ars = [((nodes.length+u.size - 1:Nat):Int),((nodes.length+u.size+v.size - 1:Nat):Int)]∧∃ n1 n2,nn=n1 ++ n2∧Nf u nodes.length n1∧Nf v (nodes.length+u.size) n2)) (.inl ⟨rfl,rfl,rfl⟩) ?_ ?_).mono ?_
 ·rintro kk ars nn (⟨rfl,rfl,rfl⟩|⟨rfl,rfl,h⟩|⟨rfl,rfl,n1,n2,rfl,h,h'⟩)
  ·exact ⟨rfl,by simp;omega⟩
  ·exact ⟨rfl,by rw [h.len];omega⟩
  ·exact ⟨rfl,by rw [List.length_append,h.len,h'.len];omega⟩
 ·intro kk h ars nn hE A2 c2 un ua um W' hc2 hC2 hP2 hB2
  match kk,h with
  | 0,h =>
   rcases hE with ⟨_,rfl,rfl⟩|⟨h,_⟩|⟨h,_⟩
   ·refine (hy A2 c2 (nodes ++ []) un ua um W' hc2 hC2 (by simp;omega) hP2 hB2).mono fun e W2 h=>h.imp ?_
    rintro num n2 ⟨h1,h2⟩
    exact .inr (.inl ⟨rfl,by simp [h2],by simpa using h1⟩)
   ·exact absurd h (by decide)
   ·exact absurd h (by decide)
  | 1,h =>
   rcases hE with ⟨h,_⟩|⟨_,rfl,hn⟩|⟨h,_⟩
   ·exact absurd h (by decide)
   ·have hl:(nodes ++ nn).length=nodes.length+u.size:=by rw [List.length_append,hn.len]
    refine (hz A2 c2 (nodes ++ nn) un ua um W' hc2 hC2 (by omega) hP2 hB2).mono fun e W2 h=>h.imp ?_
    rintro num n2 ⟨h1,h2⟩
    rw [hl] at h1 h2
    exact .inr (.inr ⟨rfl,by rw [h2];rfl,nn,n2,rfl,hn,h1⟩)
   ·exact absurd h (by decide)
  | kk+2,h=>exact absurd h (by simp)
 ·intro e W' h
  refine h.imp ?_
  rintro num n2 ⟨ars,nn,x,rfl,rfl,hE,h1,h2,h3⟩
  rcases hE with ⟨h,_⟩|⟨h,_⟩|⟨_,rfl,n1,n2,rfl,h,h'⟩
  ·exact absurd h (by simp)
  ·exact absurd h (by simp)
  ·exact ⟨hN _ _ _ _ h h' h1 h2 h3,by rw [hsz,List.length_append,h.len,h'.len];congr 1;omega⟩
theorem add_all {x:S65} {t:Rx} (h:IsRx x t):AddAt w0 g s L x t:=by
 induction h with
 | none b=>exact add_leaf w0 g s L hsL hL hgb 1 b _ rfl fun p y h1 h2 h3=>⟨y,rfl,h1,h3⟩
 | empty b=>exact add_leaf w0 g s L hsL hL hgb 2 b _ rfl fun p y h1 h2 h3=>⟨y,rfl,h1,h3⟩
 | any b=>exact add_leaf w0 g s L hsL hL hgb 4 b _ rfl fun p y h1 h2 h3=>⟨y,rfl,h1,h3⟩
 | letter b=>exact add_leaf w0 g s L hsL hL hgb 3 b _ rfl fun p y h1 h2 h3=>⟨y,rfl,h1,h2,h3⟩
 | cat b hx hy ihx ihy=>exact add_two w0 g s L hsL hL hgb 5 b _ _ _ _ _ ihx ihy rfl fun p n1 n2 x h h' h1 h2 h3=>⟨n1,n2,x,rfl,h,h',h1,h3⟩
 | or b hx hy ihx ihy=>exact add_two w0 g s L hsL hL hgb 6 b _ _ _ _ _ ihx ihy rfl fun p n1 n2 x h h' h1 h2 h3=>⟨n1,n2,x,rfl,h,h',h1,h3⟩
 | and b hx hy ihx ihy=>exact add_two w0 g s L hsL hL hgb 7 b _ _ _ _ _ ihx ihy rfl fun p n1 n2 x h h' h1 h2 h3=>⟨n1,n2,x,rfl,h,h',h1,h3⟩
 | star b hx ih=>exact add_one w0 g s L hsL hL hgb 8 b _ _ _ ih rfl fun p n1 z h h1 h2 h3=>⟨n1,z,rfl,h,h1,h3⟩
 | not b hx ih=>exact add_one w0 g s L hsL hL hgb 9 b _ _ _ ih rfl fun p n1 z h h1 h2 h3=>⟨n1,z,rfl,h,h1,h3⟩
end
def subs:Rx→List Rx
 | .cat a b=>subs a ++ subs b ++ [.cat a b]
 | .or a b=>subs a ++ subs b ++ [.or a b]
 | .and a b=>subs a ++ subs b ++ [.and a b]
 | .star a=>subs a ++ [.star a]
 | .not a=>subs a ++ [.not a]
 | t => [t]
theorem subs_len (t:Rx):(subs t).length=t.size:=by
 induction t with
 | cat t u iht ihu=>simp only [subs,List.length_append,List.length_cons,List.length_nil,Rx.size,iht,ihu];omega
 | or t u iht ihu=>simp only [subs,List.length_append,List.length_cons,List.length_nil,Rx.size,iht,ihu];omega
 | and t u iht ihu=>simp only [subs,List.length_append,List.length_cons,List.length_nil,Rx.size,iht,ihu];omega
 | star t ih=>simp only [subs,List.length_append,List.length_cons,List.length_nil,Rx.size,ih];omega
 | not t ih=>simp only [subs,List.length_append,List.length_cons,List.length_nil,Rx.size,ih];omega
 | _=>rfl
def nd0:Nd:=⟨0,⟨#[]⟩,.slice none 0 0,[],none,0,0,0,[]⟩
def At {α:Type} (big:List α) (p:Nat) (xs:List α):Prop:=∀ (i:Nat) (x:α),xs[i]? = some x→big[p+i]? = some x
theorem At.left {α:Type} {big xs ys:List α} {p:Nat} (h:At big p (xs ++ ys)):At big p xs:=fun i x hx=>h i x (by
 have:i < xs.length:=by
  rcases Nat.lt_or_ge i xs.length with h|h
  ·exact h
  ·rw [List.getElem?_eq_none h] at hx;cases hx
 rw [List.getElem?_append_left this];exact hx)
theorem At.right {α:Type} {big xs ys:List α} {p:Nat} (h:At big p (xs ++ ys)):At big (p+xs.length) ys:=fun i x hx=>by
 have:=h (xs.length+i) x (by rw [List.getElem?_append_right (by omega)];simpa using hx)
 rwa [← Nat.add_assoc] at this
theorem At.one {α:Type} {big:List α} {p:Nat} {x:α} (h:At big p [x]):big[p]? = some x:=h 0 x rfl
theorem ft_of (l:Lay) (s:ByteArray) (S:List Rx) (nodes:List Nd) (hk:∀ q,l.kd q=((nodes[q]?).getD nd0).k) (hl:∀ q,l.lt q=((nodes[q]?).getD nd0).l) (ha:∀ q,l.ar q=((nodes[q]?).getD nd0).ars) :
  ∀ (t:Rx) (p:Nat) (nn:List Nd),Nf t p nn→At nodes p nn→At S p (subs t)→FT l s (fun q i j=>mt s ((S[q]?).getD .none) i j) t (p+t.size - 1) p:=by
 have rk:∀ q x,nodes[q]? = some x→l.kd q=x.k:=fun q x h=>by rw [hk,h];rfl
 have rl:∀ q x,nodes[q]? = some x→l.lt q=x.l:=fun q x h=>by rw [hl,h];rfl
 have ra:∀ q x,nodes[q]? = some x→l.ar q=x.ars:=fun q x h=>by rw [ha,h];rfl
 have rT:∀ (q:Nat) (u:Rx),S[q]? = some u→∀ i j,(fun q i j=>mt s ((S[q]?).getD .none) i j) q i j=mt s u i j:=fun q u h i j=>by simp only [h];rfl
 intro t
 induction t with
 | none=>rintro p nn ⟨x,rfl,h1,h2⟩ hn hS;exact ⟨rfl,rT _ _ hS.one,(rk _ _ hn.one).trans h1⟩
 | empty=>rintro p nn ⟨x,rfl,h1,h2⟩ hn hS;exact ⟨rfl,rT _ _ hS.one,(rk _ _ hn.one).trans h1⟩
 | any=>rintro p nn ⟨x,rfl,h1,h2⟩ hn hS;exact ⟨rfl,rT _ _ hS.one,(rk _ _ hn.one).trans h1⟩
 | letter b=>rintro p nn ⟨x,rfl,h1,h2,h3⟩ hn hS;exact ⟨rfl,rT _ _ hS.one,(rk _ _ hn.one).trans h1,(rl _ _ hn.one).trans h2⟩
 | not t ih =>
  rintro p nn ⟨n1,x,rfl,h,h1,h2⟩ hn hS
  have hp:=t.size_pos
  have e:p+(Rx.not t).size - 1=p+t.size:=by simp only [Rx.size];omega
  have hx:=hn.right.one
  have hs:=At.one (At.right (xs:=subs t) hS)
  rw [h.len] at hx
  rw [subs_len] at hs
  rw [e]
  exact ⟨by omega,rT _ _ hs,(rk _ _ hx).trans h1,p+t.size - 1,(ra _ _ hx).trans h2,by omega,ih p n1 h hn.left (At.left hS)⟩
 | star t ih =>
  rintro p nn ⟨n1,x,rfl,h,h1,h2⟩ hn hS
  have hp:=t.size_pos
  have e:p+(Rx.star t).size - 1=p+t.size:=by simp only [Rx.size];omega
  have hx:=hn.right.one
  have hs:=At.one (At.right (xs:=subs t) hS)
  rw [h.len] at hx
  rw [subs_len] at hs
  rw [e]
  exact ⟨by omega,rT _ _ hs,(rk _ _ hx).trans h1,p+t.size - 1,(ra _ _ hx).trans h2,by omega,ih p n1 h hn.left (At.left hS)⟩
 | cat t u iht ihu =>
  rintro p nn ⟨n1,n2,x,rfl,h,h',h1,h2⟩ hn hS
  have hp:=t.size_pos
  have hp':=u.size_pos
  have e:p+(Rx.cat t u).size - 1=p+t.size+u.size:=by simp only [Rx.size];omega
  have hx:=hn.right.one
  have hs:=At.one (At.right (xs:=subs t ++ subs u) hS)
  have hn2:=hn.left.right
  have hS2:=At.right (xs:=subs t) (At.left (xs:=subs t ++ subs u) hS)
  rw [List.length_append,h.len,h'.len,← Nat.add_assoc] at hx
  rw [List.length_append,subs_len,subs_len,← Nat.add_assoc] at hs
  rw [h.len] at hn2
  rw [subs_len] at hS2
  rw [e]
  refine ⟨by omega,rT _ _ hs,(rk _ _ hx).trans h1,p+t.size - 1,p+t.size+u.size - 1,(ra _ _ hx).trans h2,by omega,iht p n1 h hn.left.left (At.left (At.left (xs:=subs t ++ subs u) hS)),?_⟩
  rw [show p+t.size - 1+1=p+t.size by omega]
  exact ihu (p+t.size) n2 h' hn2 hS2
 | or t u iht ihu =>
  rintro p nn ⟨n1,n2,x,rfl,h,h',h1,h2⟩ hn hS
  have hp:=t.size_pos
  have hp':=u.size_pos
  have e:p+(Rx.or t u).size - 1=p+t.size+u.size:=by simp only [Rx.size];omega
  have hx:=hn.right.one
  have hs:=At.one (At.right (xs:=subs t ++ subs u) hS)
  have hn2:=hn.left.right
  have hS2:=At.right (xs:=subs t) (At.left (xs:=subs t ++ subs u) hS)
  rw [List.length_append,h.len,h'.len,← Nat.add_assoc] at hx
  rw [List.length_append,subs_len,subs_len,← Nat.add_assoc] at hs
  rw [h.len] at hn2
  rw [subs_len] at hS2
  rw [e]
  refine ⟨by omega,rT _ _ hs,(rk _ _ hx).trans h1,p+t.size - 1,p+t.size+u.size - 1,(ra _ _ hx).trans h2,by omega,iht p n1 h hn.left.left (At.left (At.left (xs:=subs t ++ subs u) hS)),?_⟩
  rw [show p+t.size - 1+1=p+t.size by omega]
  exact ihu (p+t.size) n2 h' hn2 hS2
 | and t u iht ihu =>
  rintro p nn ⟨n1,n2,x,rfl,h,h',h1,h2⟩ hn hS
  have hp:=t.size_pos
  have hp':=u.size_pos
  have e:p+(Rx.and t u).size - 1=p+t.size+u.size:=by simp only [Rx.size];omega
  have hx:=hn.right.one
  have hs:=At.one (At.right (xs:=subs t ++ subs u) hS)
  have hn2:=hn.left.right
  have hS2:=At.right (xs:=subs t) (At.left (xs:=subs t ++ subs u) hS)
  rw [List.length_append,h.len,h'.len,← Nat.add_assoc] at hx
  rw [List.length_append,subs_len,subs_len,← Nat.add_assoc] at hs
  rw [h.len] at hn2
  rw [subs_len] at hS2
  rw [e]
  refine ⟨by omega,rT _ _ hs,(rk _ _ hx).trans h1,p+t.size - 1,p+t.size+u.size - 1,(ra _ _ hx).trans h2,by omega,iht p n1 h hn.left.left (At.left (At.left (xs:=subs t ++ subs u) hS)),?_⟩
  rw [show p+t.size - 1+1=p+t.size by omega]
  exact ihu (p+t.size) n2 h' hn2 hS2
theorem blks_apart:∀ {nodes:List Nd},(nodes.flatMap Nd.blks).Nodup→(∀ (q:Nat) (x:Nd),nodes[q]? = some x→x.blks.Nodup)∧∀ (q q':Nat) (x x':Nd),nodes[q]? = some x→nodes[q']? = some x'→q ≠ q'→∀ b,b ∈ x.blks→b ∈ x'.blks→False:=by
 intro nodes
 induction nodes with
 | nil=>intro _;exact ⟨fun q x h=>by simp at h,fun q q' x x' h=>by simp at h⟩
 | cons y ys ih =>
  intro h
  rw [List.flatMap_cons,List.nodup_append] at h
  obtain ⟨h1,h2,h3⟩:=h
  obtain ⟨i1,i2⟩:=ih h2
  have hin:∀ (q:Nat) (x:Nd),ys[q]? = some x→∀ b,b ∈ x.blks→b ∈ ys.flatMap Nd.blks:=fun q x hx b hb=>List.mem_flatMap.2 ⟨x,List.mem_of_getElem? hx,hb⟩
  refine ⟨fun q x hx=>?_,fun q q' x x' hx hx' hne b hb hb' => ?_⟩
  ·match q,hx with
   | 0,hx=>simp at hx;subst hx;exact h1
   | q+1,hx=>exact i1 q x (by simpa using hx)
  ·match q,q',hx,hx',hne with
   | 0,0,_,_,hne=>exact hne rfl
   | 0,q'+1,hx,hx',_=>simp at hx;subst hx;exact h3 b hb b (hin q' x' (by simpa using hx') b hb') rfl
   | q+1,0,hx,hx',_=>simp at hx';subst hx';exact h3 b hb' b (hin q x (by simpa using hx) b hb) rfl
   | q+1,q'+1,hx,hx',hne=>exact i2 q q' x x' (by simpa using hx) (by simpa using hx') (by omega) b hb hb'
theorem cells_at {nodes:List Nd} : ∀ (q:Nat) (x:Nd),nodes[q]? = some x→(nodes.flatMap Nd.cells)[q * 3]? = some (.int .i64 x.k)∧(nodes.flatMap Nd.cells)[q * 3+1]? = some (.string x.l):=by
 induction nodes with
 | nil=>intro q x h;simp at h
 | cons y ys ih =>
  intro q x h
  match q,h with
  | 0,h=>simp at h;subst h;exact ⟨rfl,rfl⟩
  | q+1,h =>
   have:=ih q x (by simpa using h)
   have e:(y :: ys).flatMap Nd.cells = [.int .i64 y.k,.string y.l,y.sv] ++ ys.flatMap Nd.cells:=rfl
   rw [e,show (q+1) * 3=q * 3+3 by omega,List.getElem?_append_right (by simp),List.getElem?_append_right (by simp)]
   exact ⟨by simpa using this.1,by simpa using this.2⟩
def layOf (nodes:List Nd) (bn cn ba ca bm cm:Nat):Lay :=
 { N:=nodes.length,bn:=bn,ba:=ba,bm:=bm,cn:=cn,ca:=ca,cm:=cm,kd:=fun q=>((nodes[q]?).getD nd0).k,lt:=fun q=>((nodes[q]?).getD nd0).l,ar:=fun q=>((nodes[q]?).getD nd0).ars,aA:=fun q=>((nodes[q]?).getD nd0).aA,ac:=fun q=>((nodes[q]?).getD nd0).ac,tb:=fun q=>((nodes[q]?).getD nd0).tb,tc:=fun q=>((nodes[q]?).getD nd0).tc,rb:=fun q i=>((nodes[q]?).getD nd0).rows.getD i 0 }
theorem lay_ok {w0 W:World} {g:Nat} {s:ByteArray} {L:Nat} {nodes:List Nd} {vn va vm:Value} (h:P3 W w0.heap.size g s L nodes nodes nodes nodes vn va vm) (hN:0 < nodes.length) :
  ∃ bn cn ba ca bm cm,LayOk (layOf nodes bn cn ba ca bm cm) w0 W g s L∧SSt (layOf nodes bn cn ba ca bm cm) W L (fun _ _=>List.replicate L 0) W:=by
 obtain ⟨bn,cn,rfl,_,ln⟩:=h.n.form hN
 obtain ⟨ba,ca,rfl,_,la⟩:=h.a.form hN
 obtain ⟨bm,cm,rfl,_,lm⟩:=h.m.form hN
 obtain ⟨nd1,nd2⟩:=blks_apart h.nd
 have nth:∀ q,q < nodes.length→∃ x,nodes[q]? = some x∧NOk W w0.heap.size L x∧x.blks.Nodup∧∀ b ∈ x.blks,Apt g (.slice (some ⟨bn,0,none⟩) nodes.length cn) (.slice (some ⟨ba,0,none⟩) nodes.length ca) (.slice (some ⟨bm,0,none⟩) nodes.length cm) b:=fun q hq =>
  ⟨nodes[q],List.getElem?_eq_getElem hq,h.ok _ (List.getElem_mem hq),nd1 q _ (List.getElem?_eq_getElem hq),fun b hb=>h.sep b (List.mem_flatMap.2 ⟨_,List.getElem_mem hq,hb⟩)⟩
 have rowmem:∀ q i x,nodes[q]? = some x→x.rows.length=L→i < L→(layOf nodes bn cn ba ca bm cm).rb q i ∈ x.rows∧x.rows[i]? = some ((layOf nodes bn cn ba ca bm cm).rb q i):=fun q i x hx hl hi=>by
  have e:(layOf nodes bn cn ba ca bm cm).rb q i=x.rows.getD i 0:=by simp only [layOf,hx,Option.getD_some]
  rw [e,List.getD_eq_getElem?_getD,List.getElem?_eq_getElem (by omega)]
  exact ⟨List.getElem_mem _,rfl⟩
 have ne_row:∀ k,(∀ b ∈ nodes.flatMap Nd.blks,k ≠ b)→∀ q i,q < nodes.length→i < L→k ≠ (layOf nodes bn cn ba ca bm cm).rb q i:=fun k hk q i hq hi=>by
  obtain ⟨x,hx,ok,_,_⟩:=nth q hq
  exact hk _ (List.mem_flatMap.2 ⟨x,List.mem_of_getElem? hx,by simp [Nd.blks,(rowmem q i x hx ok.len hi).1]⟩)
 have st_blk:∀ q x k,nodes[q]? = some x→q < nodes.length→NOk W w0.heap.size L x→k ∈ x.blks→k ∉ x.rows→(layOf nodes bn cn ba ca bm cm).St W L k:=fun q x k hx hq ok hk hkr=>⟨ok.lt k hk,fun q' i hq' hi e=>by
  obtain ⟨x',hx',ok',_,_⟩:=nth q' hq'
  have hm:=(rowmem q' i x' hx' ok'.len hi).1
  rw [← e] at hm
  by_cases hqq:q=q'
  ·subst hqq
   rw [hx] at hx'
   injection hx' with hx'
   subst hx'
   exact hkr hm
  ·exact nd2 q q' x x' hx hx' hqq k hk (by simp [Nd.blks,hm])⟩
 refine ⟨bn,cn,ba,ca,bm,cm,⟨h.z,fun q hq=>?_,fun q hq=>?_,fun q hq=>?_,fun q hq p hp=>?_,fun q hq=>?_,fun q i hq hi=>?_,⟨blk_lt h.z,ne_row _ fun b hb e=>(h.sep b hb).1 e.symm⟩,⟨ln,ne_row _ fun b hb e=>(h.sep b hb).2.1 (by rw [← e];rfl)⟩,⟨la,ne_row _ fun b hb e=>(h.sep b hb).2.2.1 (by rw [← e];rfl)⟩,⟨lm,ne_row _ fun b hb e=>(h.sep b hb).2.2.2 (by rw [← e];rfl)⟩,fun q hq=>?_,fun q i q' i' hq hi hq' hi' e=>?_,fun q i hq hi=>?_⟩,⟨fun _ _=>rfl,fun q i hq hi=>?_,Nat.le_refl _⟩⟩
 ·obtain ⟨x,hx,ok,_,_⟩:=nth q hq
  have:=h.n.cells (g:=bn) rfl (q * 3) _ (cells_at q x hx).1
  rw [add_plain] at this
  simpa only [layOf,hx,Option.getD_some] using this
 ·obtain ⟨x,hx,ok,_,_⟩:=nth q hq
  have:=h.n.cells (g:=bn) rfl (q * 3+1) _ (cells_at q x hx).2
  rw [add_plain] at this
  simpa only [layOf,hx,Option.getD_some] using this
 ·obtain ⟨x,hx,ok,_,_⟩:=nth q hq
  have:=h.a.cells (g:=ba) rfl q x.av (by rw [List.getElem?_map,hx];rfl)
  rw [add_plain] at this
  simp only [layOf,hx,Option.getD_some]
  exact this
 ·obtain ⟨x,hx,ok,hnd,_⟩:=nth q hq
  simp only [layOf,hx,Option.getD_some] at hp ⊢
  obtain ⟨ab,ac',e,_,l2⟩:=ok.a.form (by omega)
  have eA:x.aA=some ⟨ab,0,none⟩:=by simp only [Nd.av,Value.slice.injEq] at e;exact e.1
  refine ⟨ab,eA,?_,?_⟩
  ·have hin:ab ∈ x.av.ownBlock.toList:=by rw [e];simp [Value.ownBlock]
   refine st_blk q x ab hx hq ok (by simp [Nd.blks,hin]) fun hr=>?_
   simp only [Nd.blks,List.nodup_append] at hnd
   exact hnd.2.2 ab hin ab (List.mem_cons_of_mem _ hr) rfl
  ·have:=ok.a.cells (g:=ab) (by rw [e];rfl) p (.int .i64 (x.ars.getD p 0)) (by simp only [nums,List.getElem?_map,List.getD_eq_getElem?_getD,List.getElem?_eq_getElem hp];rfl)
   rw [add_plain] at this
   exact this
 ·obtain ⟨x,hx,ok,_,_⟩:=nth q hq
  have:=h.m.cells (g:=bm) rfl q (x.mv L) (by rw [List.getElem?_map,hx];rfl)
  rw [add_plain] at this
  simp only [layOf,hx,Option.getD_some]
  exact this
 ·obtain ⟨x,hx,ok,_,_⟩:=nth q hq
  have:=ok.t.cells (g:=x.tb) rfl i (.slice (some ⟨(layOf nodes bn cn ba ca bm cm).rb q i,0,none⟩) L L) (by rw [List.getElem?_map,(rowmem q i x hx ok.len hi).2];rfl)
  rw [add_plain] at this
  have et:(layOf nodes bn cn ba ca bm cm).tb q=x.tb:=by simp only [layOf,hx,Option.getD_some]
  rw [et]
  exact this
 ·obtain ⟨x,hx,ok,hnd,_⟩:=nth q hq
  have et:(layOf nodes bn cn ba ca bm cm).tb q=x.tb:=by simp only [layOf,hx,Option.getD_some]
  rw [et]
  refine st_blk q x x.tb hx hq ok (by simp [Nd.blks]) fun hr=>?_
  simp only [Nd.blks,List.nodup_append,List.nodup_cons] at hnd
  exact hnd.2.1.1 hr
 ·obtain ⟨x,hx,ok,hnd,_⟩:=nth q hq
  obtain ⟨x',hx',ok',_,_⟩:=nth q' hq'
  have m1:=rowmem q i x hx ok.len hi
  have m2:=rowmem q' i' x' hx' ok'.len hi'
  by_cases hqq:q=q'
  ·subst hqq
   refine ⟨rfl,?_⟩
   rw [hx] at hx'
   injection hx' with hx'
   subst hx'
   simp only [Nd.blks,List.nodup_append,List.nodup_cons] at hnd
   have hr:=hnd.2.1.2
   rw [← e] at m2
   obtain ⟨l1,e1⟩:=List.getElem?_eq_some_iff.1 m1.2
   obtain ⟨l2,e2⟩:=List.getElem?_eq_some_iff.1 m2.2
   have hpw:=List.pairwise_iff_getElem.1 hr
   rcases Nat.lt_trichotomy i i' with h|h|h
   ·exact absurd (e1.trans e2.symm) (hpw i i' l1 l2 h)
   ·exact h
   ·exact absurd (e2.trans e1.symm) (hpw i' i l2 l1 h)
  ·exact (nd2 q q' x x' hx hx' hqq ((layOf nodes bn cn ba ca bm cm).rb q i) (by simp [Nd.blks,m1.1]) (by rw [e];simp [Nd.blks,m2.1])).elim
 ·obtain ⟨x,hx,ok,_,_⟩:=nth q hq
  exact (ok.r _ (rowmem q i x hx ok.len hi).1).1
 ·obtain ⟨x,hx,ok,_,_⟩:=nth q hq
  exact ⟨(ok.r _ (rowmem q i x hx ok.len hi).1).2,List.length_replicate⟩
-- EXT loop.example/g00582/spec.l4Match making
def spec_l4Match.f (a0_0:Int) (a0_1:ByteArray) (l0_2:List S65) (a1:ByteArray):Option Bool:=rxMatch a0_0 a0_1 l0_2 a1
set_option maxHeartbeats 4000000 in
theorem spec_l4Match.calls (a0_0:Int) (a0_1:ByteArray) (A0_2:Option Addr) (c0_2:Nat) (l0_2:List S65) (a1:ByteArray) (r:Bool) (w:World) (hr0_2:Kd.C k65 w A0_2 l0_2.length l0_2) (hc0_2:l0_2.length≤c0_2) (h:spec_l4Match.f a0_0 a0_1 l0_2 a1=some r) :
  Calls Tryz.prog 115 #[.agg #[.int .i64 a0_0,.string a0_1,.slice A0_2 l0_2.length c0_2],.string a1] w fun e w'=>e = .returned (.bool r)∧Below w.heap.size w w':=by
 obtain ⟨t,hx,h16,h400,hr⟩:=rxMatch_some h
 subst hr
 have ht0:=t.size_pos
 obtain ⟨p,hp⟩:∃ p,t.size=p+1:=⟨t.size - 1,by omega⟩
 have HP:=zk hp
 have HR:=zk hr0_2
 have HC:=zk hc0_2
 have HX:=zk hx
 have H16:=zk h16
 have H400:=zk h400
 clear hr0_2 hc0_2 h hx hp h16
 have HB:=zk (Below.refl w.heap.size w)
 go_enter Tryz.func115,Tryz.ntmps115
 go_upto_region 2 with (first
  | ((with_reducible refine gate_dst (N:=2) rfl ?_);refine zE (N:=2) (cs:=#[.int .i64 a0_0,.string a0_1,.slice A0_2 l0_2.length c0_2]) (t:=65) ?_;intro gr hgr w3 hbox hb3;have X3:=zk hbox;have B3:=zk (below_step HB.out hb3);have G3:=zk (show w.heap.size≤gr by omega);clear hb3 hbox hgr)
  | ((with_reducible refine gate_dst (N:=9) rfl ?_);refine zE (N:=9) (cs:=#[.string a1,.slice none 0 0,.slice none 0 0,.slice none 0 0]) (t:=142) ?_;intro gz hgz w4 hbox hb4;have X4:=zk hbox;have Y4:=zk (blk_below X3.out hb4);have B4:=zk (below_step B3.out hb4);have G4:=zk (show w.heap.size≤gz by have:=B3.out.size;omega);clear hb4 hbox hgz))
 have P4:P3 w4 w.heap.size gz a1 (a1.size+1) [] [] [] [] (.slice none 0 0) (.slice none 0 0) (.slice none 0 0) :=
  ⟨X4.out,⟨rfl,.inl ⟨rfl,rfl⟩⟩,⟨rfl,.inl ⟨rfl,rfl⟩⟩,⟨rfl,.inl ⟨rfl,rfl⟩⟩,fun x hx=>absurd hx (by simp),List.nodup_nil,fun b hb=>absurd hb (by simp)⟩
 obtain ⟨y0,y1,y2,g0,g1,g2⟩:=blk3 Y4.out
 have CA:=zk (add_all w gz a1 (a1.size+1) rfl (by omega) G4.out HX.out A0_2 c0_2 [] _ _ _ w4 HC.out HR.out (by have:=H16.out;simp;omega) P4 B4.out)
 clear P4
 go_upto_region 3 with (go_at_call 133;(with_reducible refine CA.out.mono ?_);rintro e w9 ⟨num,n2,vn,va,vm,rfl,P9',S9,F9,⟨Q9',hnum⟩,B9'⟩;obtain rfl:num=(p:Int):=hnum.trans (by have:=HP.out;simp;omega);have P9:=zk P9';have Q9:=zk Q9';have B9:=zk B9';clear P9' Q9' B9' S9 F9 hnum)
 clear CA y0 y1 y2 g0 g1 g2
 have hl:n2.length=p+1:=Q9.out.len.trans HP.out
 obtain ⟨bn,cn,ba,ca,bm,cm,ok,st⟩:=lay_ok P9.out (by simp;omega)
 have hft:=ft_of (layOf ([] ++ n2) bn cn ba ca bm cm) a1 (subs t) ([] ++ n2) (fun _=>rfl) (fun _=>rfl) (fun _=>rfl) t 0 n2 Q9.out (fun i x hx=>by simpa using hx) (fun i x hx=>by simpa using hx)
 rw [show 0+t.size - 1=p by have:=HP.out;omega] at hft
 have CI:=zk (is_all (layOf ([] ++ n2) bn cn ba ca bm cm) w w9 gz a1 (a1.size+1) ok rfl (by omega) _ t p 0 (by show p < ([] ++ n2).length;simp;omega) hft 0 a1.size (p:Int) 0 (a1.size:Int) _ w9 rfl rfl rfl (Nat.zero_le _) (by omega) st (fun q i j _ _ _ hj => .inl (by rw [List.getD_eq_getElem?_getD,List.getElem?_replicate];split <;> rfl)) B9.out)
 clear ok st hft hl
 go_wp2_with (go_at_call 134;(with_reducible refine CI.out.mono ?_);rintro e w10 ⟨rfl,m9,S9,G9,SS9,B10⟩)
 go_ret
 exact ⟨rfl,B10⟩
end Go.Proofs.YtffjfdoghofkdaaGreat.Ext
namespace Go.Proofs.YtffjfdoghofkdaaGreat.A
open Go.RowKit YtffjfdoghofkdaaGreat.Ext YtffjfdoghofkdaaGreatW.PrintWords YtffjfdoghofkdaaGreatW.PrintLast YtffjfdoghofkdaaGreatW.PrintMore
attribute [local go_sem] max2_int min2_int max_two min_two max_three min_three max_four min_four
def spec_l9Zero.f (a0_0:Int) (a0_1:ByteArray) (l0_2:List (S65)):Option (Bool):=if a0_0=0 then (if a0_1.toList=([]:List UInt8) then (some ((l0_2.length:Int) == 0)) else (some false)) else (some false)
theorem spec_l9Zero.calls (a0_0:Int) (a0_1:ByteArray) (A0_2:Option Addr) (c0_2:Nat) (l0_2:List (S65)) (r:Bool) (w:World) (hr0_2:Kd.C k65 w A0_2 l0_2.length l0_2) (hc0_2:l0_2.length≤c0_2) (h:spec_l9Zero.f a0_0 a0_1 l0_2=some r) :
   Calls Tryz.prog 98 #[.agg #[.int .i64 a0_0,.string a0_1,.slice A0_2 l0_2.length c0_2]] w fun e w'=>e = .returned (.bool r)∧Below w.heap.size w w':=by
 have hu65:=Tryz.underlying65
 have HR0_2:=zk hr0_2
 have HC0_2:=zk hc0_2
 clear hr0_2 hc0_2
 have HB:=zk (Below.refl w.heap.size w)
 have H:(if a0_0=0 then (if a0_1.toList=([]:List UInt8) then (some ((l0_2.length:Int) == 0)) else (some false)) else (some false))=some r:=h
 clear h
 by_cases c2:a0_0=0
 rw [if_pos c2] at H
 have c2b0:(a0_0 == 0)=true:=beq_iff_eq.mpr c2
 have c2b1:(a0_0 != 0)=false:=bne_eq_false_iff_eq.mpr c2
 clear c2
 by_cases c3:a0_1.toList=([]:List UInt8)
 rw [if_pos c3] at H
 have c3b0:(a0_1.toList == ([]:List UInt8))=true:=beq_iff_eq.mpr c3
 have c3b1:(a0_1.toList != ([]:List UInt8))=false:=bne_eq_false_iff_eq.mpr c3
 clear c3
 rotate_left
 rw [if_neg c3] at H
 have c3b0:(a0_1.toList == ([]:List UInt8))=false:=beq_eq_false_iff_ne.mpr c3
 have c3b1:(a0_1.toList != ([]:List UInt8))=true:=bne_iff_ne.mpr c3
 rotate_left
 rw [if_neg c2] at H
 have c2b0:(a0_0 == 0)=false:=beq_eq_false_iff_ne.mpr c2
 have c2b1:(a0_0 != 0)=true:=bne_iff_ne.mpr c2
 rotate_left
 all_goals
  obtain rfl:=zi H
  go_enter Tryz.func98,Tryz.ntmps98
  go_wp2_with (((with_reducible refine gate_dst (N:=1) rfl ?_);(try (refine gate_guard (by rfl) ?_;dsimp only));refine zE (N:=1) (cs:=#[.int .i64 a0_0,.string a0_1,.slice A0_2 l0_2.length c0_2]) (t:=65) ?_;intro gb98001 hg w4 hbox hb;have n0_:=zk (below_step za4 hb);have n1_:=zk (hbox);have n2_:=zk (zs (w:=w) hg za4);have n3_:=zk (zs (w:=w) hg za4);clear HB;have HB:=n0_;have BK98001:=n1_;have GW98001:=n2_;have GE98001:=n3_;clear n0_ n1_ n2_ n3_;clear hb hbox hg;obtain ⟨hcz5_0,hcz5_1,hcz5_2,hfz5_0,hfz5_1,hfz5_2⟩:=blk3 BK98001.out))
  go_ret
  exact ⟨za7,za4⟩
def spec_l9Coeffs.l0:Nat→List Int→Int→Option (Bool)
 | 0,_,_=>none
 | k+1,x0,x3=>if x3 < (x0.length:Int) then (if 0≤x3 then ((spec_l1In.f (rd x0 x3) (-9) 9).bind fun t100002=>(if t100002=true then (spec_l9Coeffs.l0 k x0 (wrap64 (x3+1))) else (some false))) else (none)) else (some ((x0.length:Int) == 3))
def spec_l9Coeffs.f (k:Nat) (l0:List Int):Option (Bool):=spec_l9Coeffs.l0 k l0 0
theorem spec_l9Coeffs.mono_l:∀ k,(∀ y0 y1,LeO (spec_l9Coeffs.l0 k y0 y1) (spec_l9Coeffs.l0 (k+1) y0 y1))
 | 0=>fun _ _ r h=>by simp [spec_l9Coeffs.l0] at h
 | k+1=>by
  have ih0:=spec_l9Coeffs.mono_l k
  ·intro y0 y1
   unfold spec_l9Coeffs.l0
   repeat' first
   | with_reducible first|exact ih0 _ _|exact LeO.refl _|exact LeO.none _|refine LeO.ite ?_ ?_|refine LeO.bind ?_ (fun _=>?_)
theorem spec_l9Coeffs.mono:∀ a0 k,LeO (spec_l9Coeffs.f k a0) (spec_l9Coeffs.f (k+1) a0):=by
 intro a0 k
 have ih0:=spec_l9Coeffs.mono_l k
 unfold spec_l9Coeffs.f
 repeat' first
  | with_reducible first|exact ih0 _ _|exact LeO.refl _|exact LeO.none _|refine LeO.ite ?_ ?_|refine LeO.bind ?_ (fun _=>?_)
theorem spec_l9Coeffs.calls (k:Nat) (A0:Option Addr) (c0:Nat) (l0:List Int) (r:Bool) (w:World) (hr0:Kd.C (Kd.int .i64) w A0 l0.length l0) (hc0:l0.length≤c0) (h:spec_l9Coeffs.f k l0=some r) :
   Calls Tryz.prog 100 #[.slice A0 l0.length c0] w fun e w'=>e = .returned (.bool r)∧Drawn0 w w':=by
 have HR0:=zk hr0
 have HC0:=zk hc0
 clear hr0 hc0
 have H:(spec_l9Coeffs.l0 k l0 0)=some r:=h
 clear h
 have H':=zk H
 clear H
 go_enter Tryz.func100,Tryz.ntmps100
 go_wp2
 first|go_loopg [3] k (fun kq v3 w'=>∃ (x3_1:Int),v3 = .int .i64 x3_1∧Aside0 (spec_l9Coeffs.l0 kq l0 x3_1=some r)∧Aside0 (kq≤k)∧Drawn0 w w')|(simp only [Act.put,zt,zv,zu];go_loopg [3] k (fun kq v3 w'=>∃ (x3_1:Int),v3 = .int .i64 x3_1∧Aside0 (spec_l9Coeffs.l0 kq l0 x3_1=some r)∧Aside0 (kq≤k)∧Drawn0 w w'))
 case atStart=>exact ⟨(0),za8,H',⟨Nat.le_refl _⟩,za11⟩
 case round =>
  clear H'
  obtain ⟨x3_1,rfl,HA,HK1,⟨m1,rfl⟩⟩:=hrel
  cases gk with
  | zero=>exact absurd HA.out (by simp [spec_l9Coeffs.l0])
  | succ k1 =>
   have H:=HA.out
   clear HA
   simp only [spec_l9Coeffs.l0] at H
   by_cases c2:x3_1 < (l0.length:Int)
   rw [if_pos c2] at H
   have c2b0:decide (x3_1 < (l0.length:Int))=true:=decide_eq_true c2
   clear c2
   by_cases c3:0≤x3_1
   rw [if_pos c3] at H
   have c3b0:decide (0≤x3_1)=true:=decide_eq_true c3
   clear c3
   replace H:=zo H
   obtain ⟨t100002,A40,H⟩:=H
   replace H:(if t100002=true then (spec_l9Coeffs.l0 k1 l0 (wrap64 (x3_1+1))) else (some false))=some r:=H
   have A4:=zk A40
   clear A40
   by_cases c5:t100002=true
   subst c5
   have H1:(spec_l9Coeffs.l0 k1 l0 (wrap64 (x3_1+1)))=some r:=by rw [if_pos rfl] at H;exact H
   clear H
   have H:=H1
   clear H1
   have H':=zk H
   clear H
   have fin0_:=zk trivial
   rotate_left
   replace c5:=Bool.eq_false_iff.mpr c5
   subst c5
   have H1:(some false)=some r:=by rw [if_neg (show ¬ (false=true) by decide)] at H;exact H
   clear H
   have H:=H1
   clear H1
   obtain rfl:=zi H
   have fin1_:=zk trivial
   rotate_left
   · rw [if_neg c3] at H
     exact absurd H (by simp)
   · rw [if_neg c2] at H
     have c2b0:decide (x3_1 < (l0.length:Int))=false:=decide_eq_false c2
     clear c2
     obtain rfl:=zi H
     go_wp2
     go_ret
     exact ⟨za8,za11⟩
   all_goals
    have p100001:0≤(x3_1:Int):=of_decide_eq_true za9
    have q100001:x3_1 < (l0.length:Int):=of_decide_eq_true za9
    obtain ⟨ad100001,e100001,hx100001_0⟩:=Kd.at_int HR0.out x3_1 p100001 q100001
    cases e100001
    replace p100001:=eq_true p100001
    replace q100001:=eq_true q100001
    go_wp2_with (((with_reducible refine gate_callee (f:=101) rfl ?_);refine goesL_ (some 14) rfl rfl Tryz.func101 (by kernel_rfl) rfl #[.int .i64 (rd l0 x3_1),.int .i64 (-9),.int .i64 9] rfl za5 ?_;(with_reducible refine (spec_l1In.calls (rd l0 x3_1) (-9) 9 _ _ A4.out).mono ?_);rintro e w' ⟨rfl,⟨nd,rfl⟩⟩;refine ⟨_,rfl,?_⟩))
    first
    | (
      clear fin0_
      go_roundg k1
      case measure=>have:=HK1.out;omega
      case rel=>exact ⟨(wrap64 (x3_1+1)),za8,H',⟨za17⟩,za11⟩)
    | (
      clear fin1_
      go_ret
      exact ⟨za8,za11⟩)
mutual
def spec_IsValidConstraint.j0:Nat→Bool→Int→ByteArray→ByteArray→Int→ByteArray→List (S65)→List Int→Int→Option (Bool)
 | 0,_,_,_,_,_,_,_,_,_=>none
 | k+1,x3,x69002000,x69002001,x69002002,x69002003,x69002004,x69002005,x69002006,x69002007=>if x69002000=1 then (spec_IsValidConstraint.j1 k x3 x69002000 (x69002000 == 1) x69002000 x69002001 x69002002 x69002003 x69002004 x69002005 x69002006 x69002007) else (spec_IsValidConstraint.j1 k x3 x69002000 (x69002000 == 2) x69002000 x69002001 x69002002 x69002003 x69002004 x69002005 x69002006 x69002007)
def spec_IsValidConstraint.j1:Nat→Bool→Int→Bool→Int→ByteArray→ByteArray→Int→ByteArray→List (S65)→List Int→Int→Option (Bool)
 | 0,_,_,_,_,_,_,_,_,_,_,_=>none
 | k+1,x3,x14,x15,x69002000,x69002001,x69002002,x69002003,x69002004,x69002005,x69002006,x69002007=>if x15=true then ((spec_IsTerm.f k x69002001).bind fun t69002=>(if t69002=true then ((spec_IsTerm.f k x69002002).bind fun t69003=>(if t69003=true then ((spec_l9Zero.f x69002003 x69002004 x69002005).bind fun t69004=>(if t69004=true then (some x3) else (some false))) else (some false))) else (some false))) else (if x14=3 then (spec_IsValidConstraint.j2 k x3 x14 (x14 == 3) x69002000 x69002001 x69002002 x69002003 x69002004 x69002005 x69002006 x69002007) else (spec_IsValidConstraint.j2 k x3 x14 (x14 == 4) x69002000 x69002001 x69002002 x69002003 x69002004 x69002005 x69002006 x69002007))
def spec_IsValidConstraint.j2:Nat→Bool→Int→Bool→Int→ByteArray→ByteArray→Int→ByteArray→List (S65)→List Int→Int→Option (Bool)
 | 0,_,_,_,_,_,_,_,_,_,_,_=>none
 | k+1,x3,x14,x34,x69002000,x69002001,x69002002,x69002003,x69002004,x69002005,x69002006,x69002007=>if x34=true then ((spec_IsTerm.f k x69002001).bind fun t69005=>(if t69005=true then (if x69002002.toList=([]:List UInt8) then ((spec_IsValidRegex.f k x69002003 x69002004 x69002005).bind fun t69006=>(if t69006=true then (some x3) else (some false))) else (some false)) else (some false))) else (if x14=5 then (if x69002001.toList=([]:List UInt8) then (if x69002002.toList=([]:List UInt8) then ((spec_l9Zero.f x69002003 x69002004 x69002005).bind fun t69007=>(if t69007=true then ((spec_l9Coeffs.f k x69002006).bind fun t69008=>(if t69008=true then ((spec_l1In.f x69002007 (-99) 99).bind fun t69009=>(some t69009)) else (some false))) else (some false))) else (some false)) else (some false)) else (some false))
end
def spec_IsValidConstraint.f (k:Nat) (a0_0:Int) (a0_1:ByteArray) (a0_2:ByteArray) (a0_3:Int) (a0_4:ByteArray) (l0_5:List (S65)) (l0_6:List Int) (a0_7:Int):Option (Bool):=if (l0_6.length:Int)=0 then (spec_IsValidConstraint.j0 k (a0_7 == 0) a0_0 a0_1 a0_2 a0_3 a0_4 l0_5 l0_6 a0_7) else (spec_IsValidConstraint.j0 k false a0_0 a0_1 a0_2 a0_3 a0_4 l0_5 l0_6 a0_7)
theorem spec_IsValidConstraint.mono_l:∀ k,(∀ y0 y1 y2 y3 y4 y5 y6 y7 y8,LeO (spec_IsValidConstraint.j0 k y0 y1 y2 y3 y4 y5 y6 y7 y8) (spec_IsValidConstraint.j0 (k+1) y0 y1 y2 y3 y4 y5 y6 y7 y8))∧(∀ y0 y1 y2 y3 y4 y5 y6 y7 y8 y9 y10,LeO (spec_IsValidConstraint.j1 k y0 y1 y2 y3 y4 y5 y6 y7 y8 y9 y10) (spec_IsValidConstraint.j1 (k+1) y0 y1 y2 y3 y4 y5 y6 y7 y8 y9 y10))∧(∀ y0 y1 y2 y3 y4 y5 y6 y7 y8 y9 y10,LeO (spec_IsValidConstraint.j2 k y0 y1 y2 y3 y4 y5 y6 y7 y8 y9 y10) (spec_IsValidConstraint.j2 (k+1) y0 y1 y2 y3 y4 y5 y6 y7 y8 y9 y10))
 | 0=>⟨fun _ _ _ _ _ _ _ _ _ r h=>by simp [spec_IsValidConstraint.j0] at h,fun _ _ _ _ _ _ _ _ _ _ _ r h=>by simp [spec_IsValidConstraint.j1] at h,fun _ _ _ _ _ _ _ _ _ _ _ r h=>by simp [spec_IsValidConstraint.j2] at h⟩
 | k+1=>by
  obtain ⟨ih0,ih1,ih2⟩:=spec_IsValidConstraint.mono_l k
  refine ⟨?_,?_,?_⟩
  ·intro y0 y1 y2 y3 y4 y5 y6 y7 y8
   unfold spec_IsValidConstraint.j0
   repeat' first
   | with_reducible first|exact ih0 _ _ _ _ _ _ _ _ _|exact ih1 _ _ _ _ _ _ _ _ _ _ _|exact ih2 _ _ _ _ _ _ _ _ _ _ _|exact spec_IsTerm.mono _ _|exact spec_IsValidRegex.mono _ _ _ _|exact spec_l9Coeffs.mono _ _|exact LeO.refl _|exact LeO.none _|refine LeO.ite ?_ ?_|refine LeO.bind ?_ (fun _=>?_)
  ·intro y0 y1 y2 y3 y4 y5 y6 y7 y8 y9 y10
   unfold spec_IsValidConstraint.j1
   repeat' first
   | with_reducible first|exact ih0 _ _ _ _ _ _ _ _ _|exact ih1 _ _ _ _ _ _ _ _ _ _ _|exact ih2 _ _ _ _ _ _ _ _ _ _ _|exact spec_IsTerm.mono _ _|exact spec_IsValidRegex.mono _ _ _ _|exact spec_l9Coeffs.mono _ _|exact LeO.refl _|exact LeO.none _|refine LeO.ite ?_ ?_|refine LeO.bind ?_ (fun _=>?_)
  ·intro y0 y1 y2 y3 y4 y5 y6 y7 y8 y9 y10
   unfold spec_IsValidConstraint.j2
   repeat' first
   | with_reducible first|exact ih0 _ _ _ _ _ _ _ _ _|exact ih1 _ _ _ _ _ _ _ _ _ _ _|exact ih2 _ _ _ _ _ _ _ _ _ _ _|exact spec_IsTerm.mono _ _|exact spec_IsValidRegex.mono _ _ _ _|exact spec_l9Coeffs.mono _ _|exact LeO.refl _|exact LeO.none _|refine LeO.ite ?_ ?_|refine LeO.bind ?_ (fun _=>?_)
theorem spec_IsValidConstraint.mono:∀ a0 a1 a2 a3 a4 a5 a6 a7 k,LeO (spec_IsValidConstraint.f k a0 a1 a2 a3 a4 a5 a6 a7) (spec_IsValidConstraint.f (k+1) a0 a1 a2 a3 a4 a5 a6 a7):=by
 intro a0 a1 a2 a3 a4 a5 a6 a7 k
 obtain ⟨ih0,ih1,ih2⟩:=spec_IsValidConstraint.mono_l k
 unfold spec_IsValidConstraint.f
 repeat' first
  | with_reducible first|exact ih0 _ _ _ _ _ _ _ _ _|exact ih1 _ _ _ _ _ _ _ _ _ _ _|exact ih2 _ _ _ _ _ _ _ _ _ _ _|exact spec_IsTerm.mono _ _|exact spec_IsValidRegex.mono _ _ _ _|exact spec_l9Coeffs.mono _ _|exact LeO.refl _|exact LeO.none _|refine LeO.ite ?_ ?_|refine LeO.bind ?_ (fun _=>?_)
theorem spec_IsValidConstraint.calls (k:Nat) (a0_0:Int) (a0_1:ByteArray) (a0_2:ByteArray) (a0_3:Int) (a0_4:ByteArray) (A0_5:Option Addr) (c0_5:Nat) (l0_5:List (S65)) (A0_6:Option Addr) (c0_6:Nat) (l0_6:List Int) (a0_7:Int) (r:Bool) (w:World) (hr0_5:Kd.C k65 w A0_5 l0_5.length l0_5) (hc0_5:l0_5.length≤c0_5) (hr0_6:Kd.C (Kd.int .i64) w A0_6 l0_6.length l0_6) (hc0_6:l0_6.length≤c0_6) (h:spec_IsValidConstraint.f k a0_0 a0_1 a0_2 a0_3 a0_4 l0_5 l0_6 a0_7=some r) :
   Calls Tryz.prog 69 #[.agg #[.int .i64 a0_0,.string a0_1,.string a0_2,.int .i64 a0_3,.string a0_4,.slice A0_5 l0_5.length c0_5,.slice A0_6 l0_6.length c0_6,.int .i64 a0_7]] w fun e w'=>e = .returned (.bool r)∧Below w.heap.size w w':=by
 have hu67:=Tryz.underlying67
 have hu65:=Tryz.underlying65
 have HR0_5:=zk hr0_5
 have HC0_5:=zk hc0_5
 clear hr0_5 hc0_5
 have HR0_6:=zk hr0_6
 have HC0_6:=zk hc0_6
 clear hr0_6 hc0_6
 have HB:=zk (Below.refl w.heap.size w)
 have H:(if (l0_6.length:Int)=0 then (spec_IsValidConstraint.j0 k (a0_7 == 0) a0_0 a0_1 a0_2 a0_3 a0_4 l0_5 l0_6 a0_7) else (spec_IsValidConstraint.j0 k false a0_0 a0_1 a0_2 a0_3 a0_4 l0_5 l0_6 a0_7))=some r:=h
 clear h
 have HC2:=zk H
 clear H
 go_enter Tryz.func69,Tryz.ntmps69
 go_upto_region 1 with (first|((with_reducible refine gate_dst (N:=1) rfl ?_);refine zE (N:=1) (cs:=#[.int .i64 a0_0,.string a0_1,.string a0_2,.int .i64 a0_3,.string a0_4,.slice A0_5 l0_5.length c0_5,.slice A0_6 l0_6.length c0_6,.int .i64 a0_7]) (t:=67) ?_;intro gb69001 hg w3 hbox hb;have n0_:=zk (below_step za4 hb);have n1_:=zk (hbox);have n2_:=zk (zs (w:=w) hg za4);have n3_:=zk (zs (w:=w) hg za4);clear HB;have HB:=n0_;have BK69001:=n1_;have GW69001:=n2_;have GE69001:=n3_;clear n0_ n1_ n2_ n3_;clear hb hbox hg))
 (try simp only [Act.put,zt,zu,zv])
 go_cut [3] (fun v3 wc=>∃ (kq:Nat) (x3_1:Bool),v3 = .bool x3_1∧Aside0 (spec_IsValidConstraint.j0 kq x3_1 a0_0 a0_1 a0_2 a0_3 a0_4 l0_5 l0_6 a0_7=some r)∧Aside0 (kq≤k)∧Aside0 (wc.heap[gb69001]? = some (.cells #[.int .i64 a0_0,.string a0_1,.string a0_2,.int .i64 a0_3,.string a0_4,(.slice A0_5 l0_5.length c0_5),(.slice A0_6 l0_6.length c0_6),.int .i64 a0_7] 67 (0,0)))∧Aside0 (Below w.heap.size w wc))
 case first =>
  have H:=HC2.out
  clear HC2
  by_cases c4:(l0_6.length:Int)=0
  · rw [if_pos c4] at H
    have c4b0:((l0_6.length:Int) == 0)=true:=beq_iff_eq.mpr c4
    have c4b1:((l0_6.length:Int) != 0)=false:=bne_eq_false_iff_eq.mpr c4
    clear c4
    (first|rw [c4b0]|(simp only [i64_w,i32_w];rw [c4b0])|skip)
    have H':=zk H
    clear H
    obtain ⟨hcz5_0,hcz5_1,hcz5_2,hcz5_3,hcz5_4,hcz5_5,hcz5_6,hcz5_7,hfz5_0,hfz5_1,hfz5_2,hfz5_3,hfz5_4,hfz5_5,hfz5_6,hfz5_7⟩:=blk8 BK69001.out
    go_wp2
    go_meet
    case rel=>exact ⟨_,((a0_7 == 0)),za8,H',⟨za26⟩,⟨za0 BK69001.out⟩,⟨za4⟩⟩
  · rw [if_neg c4] at H
    have c4b0:((l0_6.length:Int) == 0)=false:=beq_eq_false_iff_ne.mpr c4
    have c4b1:((l0_6.length:Int) != 0)=true:=bne_iff_ne.mpr c4
    have c4b2:¬ (l0_6 = []):=fun h_=>c4 (by rw [h_];rfl)
    (first|rw [c4b0]|(simp only [i64_w,i32_w];rw [c4b0])|skip)
    have H':=zk H
    clear H
    obtain ⟨hcz6_0,hcz6_1,hcz6_2,hcz6_3,hcz6_4,hcz6_5,hcz6_6,hcz6_7,hfz6_0,hfz6_1,hfz6_2,hfz6_3,hfz6_4,hfz6_5,hfz6_6,hfz6_7⟩:=blk8 BK69001.out
    go_wp2
    go_meet
    case rel=>exact ⟨_,(false),za8,H',⟨za26⟩,⟨za0 BK69001.out⟩,⟨za4⟩⟩
 case rest =>
  clear HC2
  obtain ⟨kq,x3_1,rfl,HA,HJ1,BK69001,HB⟩:=hcut
  cases kq with
  | zero=>exact absurd HA.out (by simp [spec_IsValidConstraint.j0])
  | succ kj1 =>
   have H:=HA.out
   clear HA
   simp only [spec_IsValidConstraint.j0] at H
   have HC7:=zk H
   clear H
   obtain ⟨hcz8_0,hcz8_1,hcz8_2,hcz8_3,hcz8_4,hcz8_5,hcz8_6,hcz8_7,hfz8_0,hfz8_1,hfz8_2,hfz8_3,hfz8_4,hfz8_5,hfz8_6,hfz8_7⟩:=blk8 BK69001.out
   go_upto_if 15 with (fail)
   go_cut [15] (fun v15 wc=>∃ (kq:Nat) (x15_6:Bool),v15 = .bool x15_6∧Aside0 (spec_IsValidConstraint.j1 kq x3_1 a0_0 x15_6 a0_0 a0_1 a0_2 a0_3 a0_4 l0_5 l0_6 a0_7=some r)∧Aside0 (kq≤kj1)∧Aside0 (wc.heap[gb69001]? = some (.cells #[.int .i64 a0_0,.string a0_1,.string a0_2,.int .i64 a0_3,.string a0_4,(.slice A0_5 l0_5.length c0_5),(.slice A0_6 l0_6.length c0_6),.int .i64 a0_7] 67 (0,0)))∧Aside0 (Below w.heap.size w wc))
   case first =>
    have H:=HC7.out
    clear HC7
    by_cases c9:a0_0=1
    · rw [if_pos c9] at H
      have c9b0:(a0_0 == 1)=true:=beq_iff_eq.mpr c9
      have c9b1:(a0_0 != 1)=false:=bne_eq_false_iff_eq.mpr c9
      clear c9
      (first|rw [c9b0]|(simp only [i64_w,i32_w];rw [c9b0])|skip)
      have H':=zk H
      clear H
      go_wp2
      go_meet
      case rel=>exact ⟨_,((a0_0 == 1)),za8,H',⟨za39⟩,⟨za0 BK69001.out⟩,⟨za4⟩⟩
    · rw [if_neg c9] at H
      have c9b0:(a0_0 == 1)=false:=beq_eq_false_iff_ne.mpr c9
      have c9b1:(a0_0 != 1)=true:=bne_iff_ne.mpr c9
      (first|rw [c9b0]|(simp only [i64_w,i32_w];rw [c9b0])|skip)
      have H':=zk H
      clear H
      go_wp2
      go_meet
      case rel=>exact ⟨_,((a0_0 == 2)),za8,H',⟨za39⟩,⟨za0 BK69001.out⟩,⟨za4⟩⟩
   case rest =>
    clear HC7
    try clear hcz8_0
    try clear hcz8_1
    try clear hcz8_2
    try clear hcz8_3
    try clear hcz8_4
    try clear hcz8_5
    try clear hcz8_6
    try clear hcz8_7
    try clear hfz8_0
    try clear hfz8_1
    try clear hfz8_2
    try clear hfz8_3
    try clear hfz8_4
    try clear hfz8_5
    try clear hfz8_6
    try clear hfz8_7
    obtain ⟨kq,x15_6,rfl,HA,HJ6,BK69001,HB⟩:=hcut
    cases kq with
    | zero=>exact absurd HA.out (by simp [spec_IsValidConstraint.j1])
    | succ kj6 =>
     have H:=HA.out
     clear HA
     simp only [spec_IsValidConstraint.j1] at H
     by_cases c10:x15_6=true
     subst c10
     have H1:((spec_IsTerm.f kj6 a0_1).bind fun t69002=>(if t69002=true then ((spec_IsTerm.f kj6 a0_2).bind fun t69003=>(if t69003=true then ((spec_l9Zero.f a0_3 a0_4 l0_5).bind fun t69004=>(if t69004=true then (some x3_1) else (some false))) else (some false))) else (some false)))=some r:=by rw [if_pos rfl] at H;exact H
     clear H
     have H:=H1
     clear H1
     replace H:=zo H
     obtain ⟨t69002,A110,H⟩:=H
     replace H:(if t69002=true then ((spec_IsTerm.f kj6 a0_2).bind fun t69003=>(if t69003=true then ((spec_l9Zero.f a0_3 a0_4 l0_5).bind fun t69004=>(if t69004=true then (some x3_1) else (some false))) else (some false))) else (some false))=some r:=H
     have A11:=zk A110
     clear A110
     by_cases c12:t69002=true
     subst c12
     have H1:((spec_IsTerm.f kj6 a0_2).bind fun t69003=>(if t69003=true then ((spec_l9Zero.f a0_3 a0_4 l0_5).bind fun t69004=>(if t69004=true then (some x3_1) else (some false))) else (some false)))=some r:=by rw [if_pos rfl] at H;exact H
     clear H
     have H:=H1
     clear H1
     replace H:=zo H
     obtain ⟨t69003,A130,H⟩:=H
     replace H:(if t69003=true then ((spec_l9Zero.f a0_3 a0_4 l0_5).bind fun t69004=>(if t69004=true then (some x3_1) else (some false))) else (some false))=some r:=H
     have A13:=zk A130
     clear A130
     by_cases c14:t69003=true
     subst c14
     have H1:((spec_l9Zero.f a0_3 a0_4 l0_5).bind fun t69004=>(if t69004=true then (some x3_1) else (some false)))=some r:=by rw [if_pos rfl] at H;exact H
     clear H
     have H:=H1
     clear H1
     replace H:=zo H
     obtain ⟨t69004,A150,H⟩:=H
     replace H:(if t69004=true then (some x3_1) else (some false))=some r:=H
     have A15:=zk A150
     clear A150
     by_cases c16:t69004=true
     subst c16
     have H1:(some x3_1)=some r:=by rw [if_pos rfl] at H;exact H
     rotate_left
     replace c16:=Bool.eq_false_iff.mpr c16
     subst c16
     have H1:(some false)=some r:=by rw [if_neg (show ¬ (false=true) by decide)] at H;exact H
     rotate_left
     replace c14:=Bool.eq_false_iff.mpr c14
     subst c14
     have H1:(some false)=some r:=by rw [if_neg (show ¬ (false=true) by decide)] at H;exact H
     rotate_left
     replace c12:=Bool.eq_false_iff.mpr c12
     subst c12
     have H1:(some false)=some r:=by rw [if_neg (show ¬ (false=true) by decide)] at H;exact H
     rotate_left
     · replace c10:=Bool.eq_false_iff.mpr c10
       subst c10
       have H1:(if a0_0=3 then (spec_IsValidConstraint.j2 kj6 x3_1 a0_0 (a0_0 == 3) a0_0 a0_1 a0_2 a0_3 a0_4 l0_5 l0_6 a0_7) else (spec_IsValidConstraint.j2 kj6 x3_1 a0_0 (a0_0 == 4) a0_0 a0_1 a0_2 a0_3 a0_4 l0_5 l0_6 a0_7))=some r:=by rw [if_neg (show ¬ (false=true) by decide)] at H;exact H
       clear H
       have H:=H1
       clear H1
       have HC23:=zk H
       clear H
       go_upto_if 34 with (fail)
       go_cut [34] (fun v34 wc=>∃ (kq:Nat) (x34_22:Bool),v34 = .bool x34_22∧Aside0 (spec_IsValidConstraint.j2 kq x3_1 a0_0 x34_22 a0_0 a0_1 a0_2 a0_3 a0_4 l0_5 l0_6 a0_7=some r)∧Aside0 (kq≤kj6)∧Aside0 (wc.heap[gb69001]? = some (.cells #[.int .i64 a0_0,.string a0_1,.string a0_2,.int .i64 a0_3,.string a0_4,(.slice A0_5 l0_5.length c0_5),(.slice A0_6 l0_6.length c0_6),.int .i64 a0_7] 67 (0,0)))∧Aside0 (Below w.heap.size w wc))
       case first =>
        have H:=HC23.out
        clear HC23
        by_cases c24:a0_0=3
        · rw [if_pos c24] at H
          have c24b0:(a0_0 == 3)=true:=beq_iff_eq.mpr c24
          have c24b1:(a0_0 != 3)=false:=bne_eq_false_iff_eq.mpr c24
          clear c24
          (first|rw [c24b0]|(simp only [i64_w,i32_w];rw [c24b0])|skip)
          have H':=zk H
          clear H
          go_wp2
          go_meet
          case rel=>exact ⟨_,((a0_0 == 3)),za8,H',⟨by have:=HJ1.out;have:=HJ6.out;first|omega|exact Nat.le_refl _⟩,⟨za0 BK69001.out⟩,⟨za4⟩⟩
        · rw [if_neg c24] at H
          have c24b0:(a0_0 == 3)=false:=beq_eq_false_iff_ne.mpr c24
          have c24b1:(a0_0 != 3)=true:=bne_iff_ne.mpr c24
          (first|rw [c24b0]|(simp only [i64_w,i32_w];rw [c24b0])|skip)
          have H':=zk H
          clear H
          go_wp2
          go_meet
          case rel=>exact ⟨_,((a0_0 == 4)),za8,H',⟨by have:=HJ1.out;have:=HJ6.out;first|omega|exact Nat.le_refl _⟩,⟨za0 BK69001.out⟩,⟨za4⟩⟩
       case rest =>
        clear HC23
        try clear c10
        try clear hcz8_0
        try clear hcz8_1
        try clear hcz8_2
        try clear hcz8_3
        try clear hcz8_4
        try clear hcz8_5
        try clear hcz8_6
        try clear hcz8_7
        try clear hfz8_0
        try clear hfz8_1
        try clear hfz8_2
        try clear hfz8_3
        try clear hfz8_4
        try clear hfz8_5
        try clear hfz8_6
        try clear hfz8_7
        obtain ⟨kq,x34_22,rfl,HA,HJ22,BK69001,HB⟩:=hcut
        cases kq with
        | zero=>exact absurd HA.out (by simp [spec_IsValidConstraint.j2])
        | succ kj22 =>
         have H:=HA.out
         clear HA
         simp only [spec_IsValidConstraint.j2] at H
         by_cases c25:x34_22=true
         subst c25
         have H1:((spec_IsTerm.f kj22 a0_1).bind fun t69005=>(if t69005=true then (if a0_2.toList=([]:List UInt8) then ((spec_IsValidRegex.f kj22 a0_3 a0_4 l0_5).bind fun t69006=>(if t69006=true then (some x3_1) else (some false))) else (some false)) else (some false)))=some r:=by rw [if_pos rfl] at H;exact H
         clear H
         have H:=H1
         clear H1
         replace H:=zo H
         obtain ⟨t69005,A260,H⟩:=H
         replace H:(if t69005=true then (if a0_2.toList=([]:List UInt8) then ((spec_IsValidRegex.f kj22 a0_3 a0_4 l0_5).bind fun t69006=>(if t69006=true then (some x3_1) else (some false))) else (some false)) else (some false))=some r:=H
         have A26:=zk A260
         clear A260
         by_cases c27:t69005=true
         subst c27
         have H1:(if a0_2.toList=([]:List UInt8) then ((spec_IsValidRegex.f kj22 a0_3 a0_4 l0_5).bind fun t69006=>(if t69006=true then (some x3_1) else (some false))) else (some false))=some r:=by rw [if_pos rfl] at H;exact H
         clear H
         have H:=H1
         clear H1
         by_cases c28:a0_2.toList=([]:List UInt8)
         rw [if_pos c28] at H
         have c28b0:(a0_2.toList == ([]:List UInt8))=true:=beq_iff_eq.mpr c28
         have c28b1:(a0_2.toList != ([]:List UInt8))=false:=bne_eq_false_iff_eq.mpr c28
         clear c28
         replace H:=zo H
         obtain ⟨t69006,A290,H⟩:=H
         replace H:(if t69006=true then (some x3_1) else (some false))=some r:=H
         have A29:=zk A290
         clear A290
         by_cases c30:t69006=true
         subst c30
         have H1:(some x3_1)=some r:=by rw [if_pos rfl] at H;exact H
         clear H
         have H:=H1
         clear H1
         rotate_left
         replace c30:=Bool.eq_false_iff.mpr c30
         subst c30
         have H1:(some false)=some r:=by rw [if_neg (show ¬ (false=true) by decide)] at H;exact H
         clear H
         have H:=H1
         clear H1
         rotate_left
         rw [if_neg c28] at H
         have c28b0:(a0_2.toList == ([]:List UInt8))=false:=beq_eq_false_iff_ne.mpr c28
         have c28b1:(a0_2.toList != ([]:List UInt8))=true:=bne_iff_ne.mpr c28
         rotate_left
         replace c27:=Bool.eq_false_iff.mpr c27
         subst c27
         have H1:(some false)=some r:=by rw [if_neg (show ¬ (false=true) by decide)] at H;exact H
         clear H
         have H:=H1
         clear H1
         rotate_left
         replace c25:=Bool.eq_false_iff.mpr c25
         subst c25
         have H1:(if a0_0=5 then (if a0_1.toList=([]:List UInt8) then (if a0_2.toList=([]:List UInt8) then ((spec_l9Zero.f a0_3 a0_4 l0_5).bind fun t69007=>(if t69007=true then ((spec_l9Coeffs.f kj22 l0_6).bind fun t69008=>(if t69008=true then ((spec_l1In.f a0_7 (-99) 99).bind fun t69009=>(some t69009)) else (some false))) else (some false))) else (some false)) else (some false)) else (some false))=some r:=by rw [if_neg (show ¬ (false=true) by decide)] at H;exact H
         clear H
         have H:=H1
         clear H1
         by_cases c37:a0_0=5
         rw [if_pos c37] at H
         have c37b0:(a0_0 == 5)=true:=beq_iff_eq.mpr c37
         have c37b1:(a0_0 != 5)=false:=bne_eq_false_iff_eq.mpr c37
         clear c37
         by_cases c38:a0_1.toList=([]:List UInt8)
         rw [if_pos c38] at H
         have c38b0:(a0_1.toList == ([]:List UInt8))=true:=beq_iff_eq.mpr c38
         have c38b1:(a0_1.toList != ([]:List UInt8))=false:=bne_eq_false_iff_eq.mpr c38
         clear c38
         by_cases c39:a0_2.toList=([]:List UInt8)
         rw [if_pos c39] at H
         have c39b0:(a0_2.toList == ([]:List UInt8))=true:=beq_iff_eq.mpr c39
         have c39b1:(a0_2.toList != ([]:List UInt8))=false:=bne_eq_false_iff_eq.mpr c39
         clear c39
         replace H:=zo H
         obtain ⟨t69007,A400,H⟩:=H
         replace H:(if t69007=true then ((spec_l9Coeffs.f kj22 l0_6).bind fun t69008=>(if t69008=true then ((spec_l1In.f a0_7 (-99) 99).bind fun t69009=>(some t69009)) else (some false))) else (some false))=some r:=H
         have A40:=zk A400
         clear A400
         by_cases c41:t69007=true
         subst c41
         have H1:((spec_l9Coeffs.f kj22 l0_6).bind fun t69008=>(if t69008=true then ((spec_l1In.f a0_7 (-99) 99).bind fun t69009=>(some t69009)) else (some false)))=some r:=by rw [if_pos rfl] at H;exact H
         clear H
         have H:=H1
         clear H1
         replace H:=zo H
         obtain ⟨t69008,A420,H⟩:=H
         replace H:(if t69008=true then ((spec_l1In.f a0_7 (-99) 99).bind fun t69009=>(some t69009)) else (some false))=some r:=H
         have A42:=zk A420
         clear A420
         by_cases c43:t69008=true
         subst c43
         have H1:((spec_l1In.f a0_7 (-99) 99).bind fun t69009=>(some t69009))=some r:=by rw [if_pos rfl] at H;exact H
         clear H
         have H:=H1
         clear H1
         replace H:=zo H
         obtain ⟨t69009,A440,H⟩:=H
         replace H:(some t69009)=some r:=H
         have A44:=zk A440
         clear A440
         rotate_left
         replace c43:=Bool.eq_false_iff.mpr c43
         subst c43
         have H1:(some false)=some r:=by rw [if_neg (show ¬ (false=true) by decide)] at H;exact H
         clear H
         have H:=H1
         clear H1
         rotate_left
         replace c41:=Bool.eq_false_iff.mpr c41
         subst c41
         have H1:(some false)=some r:=by rw [if_neg (show ¬ (false=true) by decide)] at H;exact H
         clear H
         have H:=H1
         clear H1
         rotate_left
         rw [if_neg c39] at H
         have c39b0:(a0_2.toList == ([]:List UInt8))=false:=beq_eq_false_iff_ne.mpr c39
         have c39b1:(a0_2.toList != ([]:List UInt8))=true:=bne_iff_ne.mpr c39
         rotate_left
         rw [if_neg c38] at H
         have c38b0:(a0_1.toList == ([]:List UInt8))=false:=beq_eq_false_iff_ne.mpr c38
         have c38b1:(a0_1.toList != ([]:List UInt8))=true:=bne_iff_ne.mpr c38
         rotate_left
         · rw [if_neg c37] at H
           have c37b0:(a0_0 == 5)=false:=beq_eq_false_iff_ne.mpr c37
           have c37b1:(a0_0 != 5)=true:=bne_iff_ne.mpr c37
           obtain rfl:=zi H
           go_wp2
           go_ret
           exact ⟨za7,za4⟩
         all_goals
          obtain rfl:=zi H
          obtain ⟨hcz45_0,hcz45_1,hcz45_2,hcz45_3,hcz45_4,hcz45_5,hcz45_6,hcz45_7,hfz45_0,hfz45_1,hfz45_2,hfz45_3,hfz45_4,hfz45_5,hfz45_6,hfz45_7⟩:=blk8 BK69001.out
          go_wp2_with (first|(go_at_call 98;(with_reducible refine (spec_l9Zero.calls a0_3 a0_4 _ _ l0_5 _ _ ?side1 ?side2 A40.out).mono ?_);(case side1=>repeat (first|exact (Kd.C_below HR0_5.out HB.out)|(with_reducible refine Kd.C_alloc ?_ _)|(with_reducible refine Kd.C_drewN ?_ _)|(with_reducible refine Kd.C_drew ?_)));(case side2=>exact HC0_5.out);rintro e w46 ⟨rfl,hb⟩;have n0_:=zk (zb BK69001.out hb);have n1_:=zk (below_step za4 hb);clear BK69001;clear HB;have BK69001:=n0_;have HB:=n1_;clear n0_ n1_;(try clear hb);(try clear hb2);(try clear hk);(try clear hi);obtain ⟨hcz47_0,hcz47_1,hcz47_2,hcz47_3,hcz47_4,hcz47_5,hcz47_6,hcz47_7,hfz47_0,hfz47_1,hfz47_2,hfz47_3,hfz47_4,hfz47_5,hfz47_6,hfz47_7⟩:=blk8 BK69001.out)|(go_at_call 100;(with_reducible refine (spec_l9Coeffs.calls kj22 _ _ l0_6 _ _ ?side1 ?side2 A42.out).mono ?_);(case side1=>repeat (first|exact (Kd.C_below HR0_6.out HB.out)|(with_reducible refine Kd.C_alloc ?_ _)|(with_reducible refine Kd.C_drewN ?_ _)|(with_reducible refine Kd.C_drew ?_)));(case side2=>exact HC0_6.out);rintro e w' ⟨rfl,⟨nd,rfl⟩⟩)|(go_at_call 101;(with_reducible refine (spec_l1In.calls a0_7 (-99) 99 t69009 _ A44.out).mono ?_);rintro e w' ⟨rfl,⟨nd,rfl⟩⟩)|((with_reducible refine gate_callee (f:=97) rfl ?_);refine goesL_ (some 39) rfl rfl Tryz.func97 (by kernel_rfl) rfl #[.string a0_1] rfl za5 ?_;(with_reducible refine (spec_IsTerm.calls kj22 a0_1 _ _ A26.out).mono ?_);rintro e w' ⟨rfl,⟨nd,rfl⟩⟩;refine ⟨_,rfl,?_⟩)|(go_at_call 99;(with_reducible refine (spec_IsValidRegex.calls kj22 a0_3 a0_4 _ _ l0_5 _ _ ?side1 ?side2 A29.out).mono ?_);(case side1=>repeat (first|exact (Kd.C_below HR0_5.out za4)|(with_reducible refine Kd.C_alloc ?_ _)|(with_reducible refine Kd.C_drewN ?_ _)|(with_reducible refine Kd.C_drew ?_)));(case side2=>exact HC0_5.out);rintro e w32 ⟨rfl,hb⟩;have n0_:=zk (zb BK69001.out hb);have n1_:=zk (below_step za4 hb);clear BK69001;clear HB;have BK69001:=n0_;have HB:=n1_;clear n0_ n1_;(try clear hb);(try clear hb2);(try clear hk);(try clear hi)))
          go_ret
          exact ⟨za7,za4⟩
     all_goals
      clear H
      have H:=H1
      clear H1
      obtain rfl:=zi H
      obtain ⟨hcz17_0,hcz17_1,hcz17_2,hcz17_3,hcz17_4,hcz17_5,hcz17_6,hcz17_7,hfz17_0,hfz17_1,hfz17_2,hfz17_3,hfz17_4,hfz17_5,hfz17_6,hfz17_7⟩:=blk8 BK69001.out
      go_wp2_with (first|((with_reducible refine gate_callee (f:=97) rfl ?_);refine goesL_ (some 20) rfl rfl Tryz.func97 (by kernel_rfl) rfl #[.string a0_1] rfl za5 ?_;(with_reducible refine (spec_IsTerm.calls kj6 a0_1 _ _ A11.out).mono ?_);rintro e w' ⟨rfl,⟨nd,rfl⟩⟩;refine ⟨_,rfl,?_⟩)|(go_at_call 97;(with_reducible refine (spec_IsTerm.calls kj6 a0_2 _ _ A13.out).mono ?_);rintro e w' ⟨rfl,⟨nd,rfl⟩⟩)|(go_at_call 98;(with_reducible refine (spec_l9Zero.calls a0_3 a0_4 _ _ l0_5 _ _ ?side1 ?side2 A15.out).mono ?_);(case side1=>repeat (first|exact (Kd.C_below HR0_5.out za4)|(with_reducible refine Kd.C_alloc ?_ _)|(with_reducible refine Kd.C_drewN ?_ _)|(with_reducible refine Kd.C_drew ?_)));(case side2=>exact HC0_5.out);rintro e w18 ⟨rfl,hb⟩;have n0_:=zk (zb BK69001.out hb);have n1_:=zk (below_step za4 hb);clear BK69001;clear HB;have BK69001:=n0_;have HB:=n1_;clear n0_ n1_;(try clear hb);(try clear hb2);(try clear hk);(try clear hi)))
      go_ret
      exact ⟨za7,za4⟩
def spec_VarsOfConstraint.l0:Nat→ByteArray→Int→Int→ByteArray→ByteArray→Int→ByteArray→List (S65)→List Int→Int→Option (ByteArray)
 | 0,_,_,_,_,_,_,_,_,_,_=>none
 | k+1,x3,x4,x72002000,x72002001,x72002002,x72002003,x72002004,x72002005,x72002006,x72002007=>if x4 < (x72002006.length:Int) then (if 0≤x4 then (if (rd x72002006 x4)=0 then (spec_VarsOfConstraint.l0 k x3 (wrap64 (x4+1)) x72002000 x72002001 x72002002 x72002003 x72002004 x72002005 x72002006 x72002007) else (if x4≤(wrap64 (x4+1)) then (if (wrap64 (x4+1))≤3 then (if x3.size+((⟨#[88,89,90]⟩:ByteArray).extract (x4:Int).toNat ((wrap64 (x4+1)):Int).toNat).size≤9223372036854775807 then (spec_VarsOfConstraint.l0 k (x3 ++ ((⟨#[88,89,90]⟩:ByteArray).extract (x4:Int).toNat ((wrap64 (x4+1)):Int).toNat)) (wrap64 (x4+1)) x72002000 x72002001 x72002002 x72002003 x72002004 x72002005 x72002006 x72002007) else (none)) else (none)) else (none))) else (none)) else ((spec_VarsOf.f k x3).bind fun t72004=>(some t72004))
def spec_VarsOfConstraint.f (k:Nat) (a0_0:Int) (a0_1:ByteArray) (a0_2:ByteArray) (a0_3:Int) (a0_4:ByteArray) (l0_5:List (S65)) (l0_6:List Int) (a0_7:Int):Option (ByteArray):=(spec_IsValidConstraint.f k a0_0 a0_1 a0_2 a0_3 a0_4 l0_5 l0_6 a0_7).bind fun t72002=>(if t72002=true then (if a0_1.size+a0_2.size≤9223372036854775807 then (spec_VarsOfConstraint.l0 k (a0_1 ++ a0_2) 0 a0_0 a0_1 a0_2 a0_3 a0_4 l0_5 l0_6 a0_7) else (none)) else (some (⟨#[]⟩:ByteArray)))
theorem spec_VarsOfConstraint.mono_l:∀ k,(∀ y0 y1 y2 y3 y4 y5 y6 y7 y8 y9,LeO (spec_VarsOfConstraint.l0 k y0 y1 y2 y3 y4 y5 y6 y7 y8 y9) (spec_VarsOfConstraint.l0 (k+1) y0 y1 y2 y3 y4 y5 y6 y7 y8 y9))
 | 0=>fun _ _ _ _ _ _ _ _ _ _ r h=>by simp [spec_VarsOfConstraint.l0] at h
 | k+1=>by
  have ih0:=spec_VarsOfConstraint.mono_l k
  ·intro y0 y1 y2 y3 y4 y5 y6 y7 y8 y9
   unfold spec_VarsOfConstraint.l0
   repeat' first
   | with_reducible first|exact ih0 _ _ _ _ _ _ _ _ _ _|exact spec_IsValidConstraint.mono _ _ _ _ _ _ _ _ _|exact spec_VarsOf.mono _ _|exact LeO.refl _|exact LeO.none _|refine LeO.ite ?_ ?_|refine LeO.bind ?_ (fun _=>?_)
theorem spec_VarsOfConstraint.mono:∀ a0 a1 a2 a3 a4 a5 a6 a7 k,LeO (spec_VarsOfConstraint.f k a0 a1 a2 a3 a4 a5 a6 a7) (spec_VarsOfConstraint.f (k+1) a0 a1 a2 a3 a4 a5 a6 a7):=by
 intro a0 a1 a2 a3 a4 a5 a6 a7 k
 have ih0:=spec_VarsOfConstraint.mono_l k
 unfold spec_VarsOfConstraint.f
 repeat' first
  | with_reducible first|exact ih0 _ _ _ _ _ _ _ _ _ _|exact spec_IsValidConstraint.mono _ _ _ _ _ _ _ _ _|exact spec_VarsOf.mono _ _|exact LeO.refl _|exact LeO.none _|refine LeO.ite ?_ ?_|refine LeO.bind ?_ (fun _=>?_)
theorem spec_VarsOfConstraint.calls (k:Nat) (a0_0:Int) (a0_1:ByteArray) (a0_2:ByteArray) (a0_3:Int) (a0_4:ByteArray) (A0_5:Option Addr) (c0_5:Nat) (l0_5:List (S65)) (A0_6:Option Addr) (c0_6:Nat) (l0_6:List Int) (a0_7:Int) (r:ByteArray) (w:World) (hr0_5:Kd.C k65 w A0_5 l0_5.length l0_5) (hc0_5:l0_5.length≤c0_5) (hr0_6:Kd.C (Kd.int .i64) w A0_6 l0_6.length l0_6) (hc0_6:l0_6.length≤c0_6) (h:spec_VarsOfConstraint.f k a0_0 a0_1 a0_2 a0_3 a0_4 l0_5 l0_6 a0_7=some r) :
  Calls Tryz.prog 72 #[.agg #[.int .i64 a0_0,.string a0_1,.string a0_2,.int .i64 a0_3,.string a0_4,.slice A0_5 l0_5.length c0_5,.slice A0_6 l0_6.length c0_6,.int .i64 a0_7]] w fun e w'=>e = .returned (.string r)∧Below w.heap.size w w':=by
 have hu67:=Tryz.underlying67
 have HR0_5:=zk hr0_5
 have HC0_5:=zk hc0_5
 clear hr0_5 hc0_5
 have HR0_6:=zk hr0_6
 have HC0_6:=zk hc0_6
 clear hr0_6 hc0_6
 have HB:=zk (Below.refl w.heap.size w)
 have H:((spec_IsValidConstraint.f k a0_0 a0_1 a0_2 a0_3 a0_4 l0_5 l0_6 a0_7).bind fun t72002=>(if t72002=true then (if a0_1.size+a0_2.size≤9223372036854775807 then (spec_VarsOfConstraint.l0 k (a0_1 ++ a0_2) 0 a0_0 a0_1 a0_2 a0_3 a0_4 l0_5 l0_6 a0_7) else (none)) else (some (⟨#[]⟩:ByteArray))))=some r:=h
 clear h
 go_enter Tryz.func72,Tryz.ntmps72
 go_upto_region 1 with (first|((with_reducible refine gate_dst (N:=1) rfl ?_);refine zE (N:=1) (cs:=#[.int .i64 a0_0,.string a0_1,.string a0_2,.int .i64 a0_3,.string a0_4,.slice A0_5 l0_5.length c0_5,.slice A0_6 l0_6.length c0_6,.int .i64 a0_7]) (t:=67) ?_;intro gb72001 hg w5 hbox hb;have n0_:=zk (below_step za4 hb);have n1_:=zk (hbox);have n2_:=zk (zs (w:=w) hg za4);have n3_:=zk (zs (w:=w) hg za4);clear HB;have HB:=n0_;have BK72001:=n1_;have GW72001:=n2_;have GE72001:=n3_;clear n0_ n1_ n2_ n3_;clear hb hbox hg;obtain ⟨hcz6_0,hcz6_1,hcz6_2,hcz6_3,hcz6_4,hcz6_5,hcz6_6,hcz6_7,hfz6_0,hfz6_1,hfz6_2,hfz6_3,hfz6_4,hfz6_5,hfz6_6,hfz6_7⟩:=blk8 BK72001.out))
 replace H:=zo H
 obtain ⟨t72002,A20,H⟩:=H
 replace H:(if t72002=true then (if a0_1.size+a0_2.size≤9223372036854775807 then (spec_VarsOfConstraint.l0 k (a0_1 ++ a0_2) 0 a0_0 a0_1 a0_2 a0_3 a0_4 l0_5 l0_6 a0_7) else (none)) else (some (⟨#[]⟩:ByteArray)))=some r:=H
 have A2:=zk A20
 clear A20
 by_cases c3:t72002=true
 subst c3
 have H1:(if a0_1.size+a0_2.size≤9223372036854775807 then (spec_VarsOfConstraint.l0 k (a0_1 ++ a0_2) 0 a0_0 a0_1 a0_2 a0_3 a0_4 l0_5 l0_6 a0_7) else (none))=some r:=by rw [if_pos rfl] at H;exact H
 clear H
 have H:=H1
 clear H1
 by_cases c4:a0_1.size+a0_2.size≤9223372036854775807
 ·rw [if_pos c4] at H
  have c4z:=c4
  try simp at c4z
  try replace c4z:=eq_false (Nat.not_lt.2 c4z)
  have c4b0:=eq_true c4
  have c4b1:decide (a0_1.size+a0_2.size≤9223372036854775807)=true:=decide_eq_true c4
  try have c4b2:(9223372036854775807 < a0_1.size+a0_2.size)=False:=eq_false (Nat.not_lt.2 c4)
  have H':=zk H
  clear H
  go_wp2_with (first|((with_reducible refine gate_callee (f:=69) rfl ?_);refine goesL_ (some 6) rfl rfl Tryz.func69 (by kernel_rfl) rfl #[.agg #[.int .i64 a0_0,.string a0_1,.string a0_2,.int .i64 a0_3,.string a0_4,.slice A0_5 l0_5.length c0_5,.slice A0_6 l0_6.length c0_6,.int .i64 a0_7]] rfl za5 ?_;(with_reducible refine (spec_IsValidConstraint.calls k a0_0 a0_1 a0_2 a0_3 a0_4 _ _ l0_5 _ _ l0_6 a0_7 _ _ ?side1 ?side2 ?side3 ?side4 A2.out).mono ?_);(case side1=>repeat (first|exact (Kd.C_below HR0_5.out HB.out)|(with_reducible refine Kd.C_alloc ?_ _)|(with_reducible refine Kd.C_drewN ?_ _)|(with_reducible refine Kd.C_drew ?_)));(case side2=>exact HC0_5.out);(case side3=>repeat (first|exact (Kd.C_below HR0_6.out HB.out)|(with_reducible refine Kd.C_alloc ?_ _)|(with_reducible refine Kd.C_drewN ?_ _)|(with_reducible refine Kd.C_drew ?_)));(case side4=>exact HC0_6.out);rintro e w7 ⟨rfl,hb⟩;refine ⟨_,rfl,?_⟩;have n0_:=zk (zb BK72001.out hb);have n1_:=zk (below_step za4 hb);clear BK72001;clear HB;have BK72001:=n0_;have HB:=n1_;clear n0_ n1_;(try clear hb);(try clear hb2);(try clear hk);(try clear hi);obtain ⟨hcz8_0,hcz8_1,hcz8_2,hcz8_3,hcz8_4,hcz8_5,hcz8_6,hcz8_7,hfz8_0,hfz8_1,hfz8_2,hfz8_3,hfz8_4,hfz8_5,hfz8_6,hfz8_7⟩:=blk8 BK72001.out))
  first|go_loopg [3,4] k (fun kq v3 v4 w'=>∃ (x3_1:ByteArray) (x4_1:Int),v3 = .string x3_1∧v4 = .int .i64 x4_1∧Aside0 (spec_VarsOfConstraint.l0 kq x3_1 x4_1 a0_0 a0_1 a0_2 a0_3 a0_4 l0_5 l0_6 a0_7=some r)∧Aside0 (kq≤k)∧Aside0 (w'.heap[gb72001]? = some (.cells #[.int .i64 a0_0,.string a0_1,.string a0_2,.int .i64 a0_3,.string a0_4,(.slice A0_5 l0_5.length c0_5),(.slice A0_6 l0_6.length c0_6),.int .i64 a0_7] 67 (0,0)))∧Aside0 (Below w.heap.size w w'))|(simp only [Act.put,zt,zv,zu];go_loopg [3,4] k (fun kq v3 v4 w'=>∃ (x3_1:ByteArray) (x4_1:Int),v3 = .string x3_1∧v4 = .int .i64 x4_1∧Aside0 (spec_VarsOfConstraint.l0 kq x3_1 x4_1 a0_0 a0_1 a0_2 a0_3 a0_4 l0_5 l0_6 a0_7=some r)∧Aside0 (kq≤k)∧Aside0 (w'.heap[gb72001]? = some (.cells #[.int .i64 a0_0,.string a0_1,.string a0_2,.int .i64 a0_3,.string a0_4,(.slice A0_5 l0_5.length c0_5),(.slice A0_6 l0_6.length c0_6),.int .i64 a0_7] 67 (0,0)))∧Aside0 (Below w.heap.size w w')))
  case atStart=>exact ⟨(a0_1 ++ a0_2),(0),za8,za8,H',⟨Nat.le_refl _⟩,⟨za0 BK72001.out⟩,⟨za4⟩⟩
  case round =>
   clear H'
   try clear c4
   try clear c4b0
   try clear c4b1
   try clear c4b2
   try clear hcz6_0
   try clear hcz6_1
   try clear hcz6_2
   try clear hcz6_3
   try clear hcz6_4
   try clear hcz6_5
   try clear hcz6_6
   try clear hcz6_7
   try clear hcz8_0
   try clear hcz8_1
   try clear hcz8_2
   try clear hcz8_3
   try clear hcz8_4
   try clear hcz8_5
   try clear hcz8_6
   try clear hcz8_7
   try clear hfz6_0
   try clear hfz6_1
   try clear hfz6_2
   try clear hfz6_3
   try clear hfz6_4
   try clear hfz6_5
   try clear hfz6_6
   try clear hfz6_7
   try clear hfz8_0
   try clear hfz8_1
   try clear hfz8_2
   try clear hfz8_3
   try clear hfz8_4
   try clear hfz8_5
   try clear hfz8_6
   try clear hfz8_7
   obtain ⟨x3_1,x4_1,rfl,rfl,HA,HK1,BK72001,HB⟩:=hrel
   cases gk with
   | zero=>exact absurd HA.out (by simp [spec_VarsOfConstraint.l0])
   | succ k1 =>
    have H:=HA.out
    clear HA
    simp only [spec_VarsOfConstraint.l0] at H
    by_cases c9:x4_1 < (l0_6.length:Int)
    rw [if_pos c9] at H
    have c9b0:decide (x4_1 < (l0_6.length:Int))=true:=decide_eq_true c9
    clear c9
    by_cases c10:0≤x4_1
    rw [if_pos c10] at H
    have c10b0:decide (0≤x4_1)=true:=decide_eq_true c10
    clear c10
    by_cases c11:(rd l0_6 x4_1)=0
    rw [if_pos c11] at H
    have c11b0:((rd l0_6 x4_1) == 0)=true:=beq_iff_eq.mpr c11
    have c11b1:((rd l0_6 x4_1) != 0)=false:=bne_eq_false_iff_eq.mpr c11
    clear c11
    have fin0_:=zk trivial
    rotate_left
    rw [if_neg c11] at H
    have c11b0:((rd l0_6 x4_1) == 0)=false:=beq_eq_false_iff_ne.mpr c11
    have c11b1:((rd l0_6 x4_1) != 0)=true:=bne_iff_ne.mpr c11
    have c13b0:=eq_true (of_decide_eq_true za9:0≤x4_1)
    by_cases c14:x4_1≤(wrap64 (x4_1+1))
    rw [if_pos c14] at H
    have c14b0:=eq_true c14
    have c14b1:decide (x4_1≤(wrap64 (x4_1+1)))=true:=decide_eq_true c14
    by_cases c15:(wrap64 (x4_1+1))≤3
    rw [if_pos c15] at H
    have c15b0:=eq_true c15
    have c15b1:decide ((wrap64 (x4_1+1))≤3)=true:=decide_eq_true c15
    by_cases c16:x3_1.size+((⟨#[88,89,90]⟩:ByteArray).extract (x4_1:Int).toNat ((wrap64 (x4_1+1)):Int).toNat).size≤9223372036854775807
    rw [if_pos c16] at H
    have c16z:=c16
    try simp at c16z
    try replace c16z:=eq_false (Nat.not_lt.2 c16z)
    have c16b0:=eq_true c16
    have c16b1:decide (x3_1.size+((⟨#[88,89,90]⟩:ByteArray).extract (x4_1:Int).toNat ((wrap64 (x4_1+1)):Int).toNat).size≤9223372036854775807)=true:=decide_eq_true c16
    try have c16b2:(9223372036854775807 < x3_1.size+((⟨#[88,89,90]⟩:ByteArray).extract (x4_1:Int).toNat ((wrap64 (x4_1+1)):Int).toNat).size)=False:=eq_false (Nat.not_lt.2 c16)
    have fin1_:=zk trivial
    rotate_left
    · rw [if_neg c16] at H
      exact absurd H (by simp)
    · rw [if_neg c15] at H
      exact absurd H (by simp)
    · rw [if_neg c14] at H
      exact absurd H (by simp)
    · rw [if_neg c10] at H
      exact absurd H (by simp)
    · rw [if_neg c9] at H
      have c9b0:decide (x4_1 < (l0_6.length:Int))=false:=decide_eq_false c9
      clear c9
      replace H:=zo H
      obtain ⟨t72004,A180,H⟩:=H
      replace H:(some t72004)=some r:=H
      have A18:=zk A180
      clear A180
      obtain rfl:=zi H
      obtain ⟨hcz19_0,hcz19_1,hcz19_2,hcz19_3,hcz19_4,hcz19_5,hcz19_6,hcz19_7,hfz19_0,hfz19_1,hfz19_2,hfz19_3,hfz19_4,hfz19_5,hfz19_6,hfz19_7⟩:=blk8 BK72001.out
      go_wp2_with (first|((with_reducible refine gate_callee (f:=73) rfl ?_);refine goesL_ (some 33) rfl rfl Tryz.func73 (by kernel_rfl) rfl #[.string x3_1] rfl za5 ?_;(with_reducible refine (spec_VarsOf.calls k1 x3_1 t72004 _ A18.out).mono ?_);rintro e w' ⟨rfl,⟨nd,rfl⟩⟩;refine ⟨_,rfl,?_⟩))
      go_ret
      exact ⟨za7,za4⟩
    all_goals
     have H':=zk H
     clear H
     obtain ⟨hcz12_0,hcz12_1,hcz12_2,hcz12_3,hcz12_4,hcz12_5,hcz12_6,hcz12_7,hfz12_0,hfz12_1,hfz12_2,hfz12_3,hfz12_4,hfz12_5,hfz12_6,hfz12_7⟩:=blk8 BK72001.out
     have p72003:0≤(x4_1:Int):=of_decide_eq_true za9
     have q72003:x4_1 < (l0_6.length:Int):=of_decide_eq_true za9
     obtain ⟨ad72003,e72003,hx72003_0⟩:=Kd.at_int HR0_6.out x4_1 p72003 q72003
     cases e72003
     replace hx72003_0:=zx HB.out hx72003_0
     replace p72003:=eq_true p72003
     replace q72003:=eq_true q72003
     go_wp2
     first
     | (
       clear fin0_
       go_roundg k1
       case measure=>have:=HK1.out;omega
       case rel=>exact ⟨(x3_1),(wrap64 (x4_1+1)),za8,za8,H',⟨za17⟩,⟨za0 BK72001.out⟩,⟨za4⟩⟩)
     | (
       clear fin1_
       go_roundg k1
       case measure=>have:=HK1.out;omega
       case rel=>exact ⟨(x3_1 ++ ((⟨#[88,89,90]⟩:ByteArray).extract (x4_1:Int).toNat ((wrap64 (x4_1+1)):Int).toNat)),(wrap64 (x4_1+1)),za8,za8,H',⟨za17⟩,⟨za0 BK72001.out⟩,⟨za4⟩⟩)
 ·rw [if_neg c4] at H
  exact absurd H (by simp)
 ·replace c3:=Bool.eq_false_iff.mpr c3
  subst c3
  have H1:(some (⟨#[]⟩:ByteArray))=some r:=by rw [if_neg (show ¬ (false=true) by decide)] at H;exact H
  clear H
  have H:=H1
  clear H1
  obtain rfl:=zi H
  go_wp2_with (first|((with_reducible refine gate_callee (f:=69) rfl ?_);refine goesL_ (some 6) rfl rfl Tryz.func69 (by kernel_rfl) rfl #[.agg #[.int .i64 a0_0,.string a0_1,.string a0_2,.int .i64 a0_3,.string a0_4,.slice A0_5 l0_5.length c0_5,.slice A0_6 l0_6.length c0_6,.int .i64 a0_7]] rfl za5 ?_;(with_reducible refine (spec_IsValidConstraint.calls k a0_0 a0_1 a0_2 a0_3 a0_4 _ _ l0_5 _ _ l0_6 a0_7 _ _ ?side1 ?side2 ?side3 ?side4 A2.out).mono ?_);(case side1=>repeat (first|exact (Kd.C_below HR0_5.out HB.out)|(with_reducible refine Kd.C_alloc ?_ _)|(with_reducible refine Kd.C_drewN ?_ _)|(with_reducible refine Kd.C_drew ?_)));(case side2=>exact HC0_5.out);(case side3=>repeat (first|exact (Kd.C_below HR0_6.out HB.out)|(with_reducible refine Kd.C_alloc ?_ _)|(with_reducible refine Kd.C_drewN ?_ _)|(with_reducible refine Kd.C_drew ?_)));(case side4=>exact HC0_6.out);rintro e w22 ⟨rfl,hb⟩;refine ⟨_,rfl,?_⟩;have n0_:=zk (zb BK72001.out hb);have n1_:=zk (below_step za4 hb);clear BK72001;clear HB;have BK72001:=n0_;have HB:=n1_;clear n0_ n1_;(try clear hb);(try clear hb2);(try clear hk);(try clear hi)))
  go_ret
  exact ⟨za7,za4⟩
def spec_l9Sum.f (l0:List Int) (a1_0:ByteArray) (a1_1:ByteArray) (a1_2:ByteArray):Option (Int):=if 0 < (l0.length:Int) then (if 1 < (l0.length:Int) then (if 2 < (l0.length:Int) then (some (wrap64 ((wrap64 ((wrap64 ((rd l0 0) * (a1_0.size:Int)))+(wrap64 ((rd l0 1) * (a1_1.size:Int)))))+(wrap64 ((rd l0 2) * (a1_2.size:Int)))))) else (none)) else (none)) else (none)
theorem spec_l9Sum.calls (A0:Option Addr) (c0:Nat) (l0:List Int) (a1_0:ByteArray) (a1_1:ByteArray) (a1_2:ByteArray) (r:Int) (w:World) (hr0:Kd.C (Kd.int .i64) w A0 l0.length l0) (hc0:l0.length≤c0) (h:spec_l9Sum.f l0 a1_0 a1_1 a1_2=some r) :
  Calls Tryz.prog 116 #[.slice A0 l0.length c0,.agg #[.string a1_0,.string a1_1,.string a1_2]] w fun e w'=>e = .returned (.int .i64 r)∧Below w.heap.size w w':=by
 have hu32:=Tryz.underlying32
 have HR0:=zk hr0
 have HC0:=zk hc0
 clear hr0 hc0
 have HB:=zk (Below.refl w.heap.size w)
 have H:(if 0 < (l0.length:Int) then (if 1 < (l0.length:Int) then (if 2 < (l0.length:Int) then (some (wrap64 ((wrap64 ((wrap64 ((rd l0 0) * (a1_0.size:Int)))+(wrap64 ((rd l0 1) * (a1_1.size:Int)))))+(wrap64 ((rd l0 2) * (a1_2.size:Int)))))) else (none)) else (none)) else (none))=some r:=h
 clear h
 by_cases c3:0 < (l0.length:Int)
 rw [if_pos c3] at H
 have c3b0:decide (0 < (l0.length:Int))=true:=decide_eq_true c3
 have c3b1:decide (0 < l0.length)=true:=decide_eq_true (by omega)
 clear c3
 by_cases c4:1 < (l0.length:Int)
 rw [if_pos c4] at H
 have c4b0:decide (1 < (l0.length:Int))=true:=decide_eq_true c4
 have c4b1:decide (1 < l0.length)=true:=decide_eq_true (by omega)
 clear c4
 by_cases c5:2 < (l0.length:Int)
 ·rw [if_pos c5] at H
  have c5b0:decide (2 < (l0.length:Int))=true:=decide_eq_true c5
  have c5b1:decide (2 < l0.length)=true:=decide_eq_true (by omega)
  clear c5
  obtain rfl:=zi H
  go_enter Tryz.func116,Tryz.ntmps116
  go_wp2_with (first|((with_reducible refine gate_dst (N:=3) rfl ?_);refine zE (N:=3) (cs:=#[.string a1_0,.string a1_1,.string a1_2]) (t:=32) ?_;intro gb116001 hg w6 hbox hb;have n0_:=zk (below_step za4 hb);have n1_:=zk (hbox);have n2_:=zk (zs (w:=w) hg za4);have n3_:=zk (zs (w:=w) hg za4);clear HB;have HB:=n0_;have BK116001:=n1_;have GW116001:=n2_;have GE116001:=n3_;clear n0_ n1_ n2_ n3_;clear hb hbox hg;have p116002:0≤(0:Int):=(by omega);have q116002:0 < (l0.length:Int):=of_decide_eq_true za9;obtain ⟨ad116002,e116002,hx116002_0⟩:=Kd.at_int HR0.out 0 p116002 q116002;cases e116002;have qi116002:(0 < l0.length)=True:=eq_true (by omega);(try rw [show ((0:Int)).toNat=0 from rfl] at hx116002_0);(try rw [Addr.add_zero'] at hx116002_0);replace hx116002_0:=zx HB.out hx116002_0;replace p116002:=eq_true p116002;replace q116002:=eq_true q116002;obtain ⟨hcz7_0,hcz7_1,hcz7_2,hfz7_0,hfz7_1,hfz7_2⟩:=blk3 BK116001.out;have p116003:0≤(1:Int):=(by omega);have q116003:1 < (l0.length:Int):=of_decide_eq_true za9;obtain ⟨ad116003,e116003,hx116003_0⟩:=Kd.at_int HR0.out 1 p116003 q116003;obtain rfl:ad116002=ad116003:=(by injection e116003);(try simp only [show (1:Int).toNat=1 from rfl,Nat.reduceMul,Nat.reduceEqDiff,Go.Addr.add,↓reduceIte] at hx116003_0);have qi116003:(1 < l0.length)=True:=eq_true (by omega);(try rw [show ((1:Int)).toNat=1 from rfl] at hx116003_0);replace hx116003_0:=zx HB.out hx116003_0;replace p116003:=eq_true p116003;replace q116003:=eq_true q116003;have p116004:0≤(2:Int):=(by omega);have q116004:2 < (l0.length:Int):=of_decide_eq_true za9;obtain ⟨ad116004,e116004,hx116004_0⟩:=Kd.at_int HR0.out 2 p116004 q116004;obtain rfl:ad116002=ad116004:=(by injection e116004);(try simp only [show (2:Int).toNat=2 from rfl,Nat.reduceMul,Nat.reduceEqDiff,Go.Addr.add,↓reduceIte] at hx116004_0);have qi116004:(2 < l0.length)=True:=eq_true (by omega);(try rw [show ((2:Int)).toNat=2 from rfl] at hx116004_0);replace hx116004_0:=zx HB.out hx116004_0;replace p116004:=eq_true p116004;replace q116004:=eq_true q116004))
  repeat (go_quiet (first|((with_reducible refine gate_dst (N:=3) rfl ?_);refine zE (N:=3) (cs:=#[.string a1_0,.string a1_1,.string a1_2]) (t:=32) ?_;intro gb116001 hg w6 hbox hb;have n0_:=zk (below_step za4 hb);have n1_:=zk (hbox);have n2_:=zk (zs (w:=w) hg za4);have n3_:=zk (zs (w:=w) hg za4);clear HB;have HB:=n0_;have BK116001:=n1_;have GW116001:=n2_;have GE116001:=n3_;clear n0_ n1_ n2_ n3_;clear hb hbox hg;have p116002:0≤(0:Int):=(by omega);have q116002:0 < (l0.length:Int):=of_decide_eq_true za9;obtain ⟨ad116002,e116002,hx116002_0⟩:=Kd.at_int HR0.out 0 p116002 q116002;cases e116002;have qi116002:(0 < l0.length)=True:=eq_true (by omega);(try rw [show ((0:Int)).toNat=0 from rfl] at hx116002_0);(try rw [Addr.add_zero'] at hx116002_0);replace hx116002_0:=zx HB.out hx116002_0;replace p116002:=eq_true p116002;replace q116002:=eq_true q116002;obtain ⟨hcz7_0,hcz7_1,hcz7_2,hfz7_0,hfz7_1,hfz7_2⟩:=blk3 BK116001.out;have p116003:0≤(1:Int):=(by omega);have q116003:1 < (l0.length:Int):=of_decide_eq_true za9;obtain ⟨ad116003,e116003,hx116003_0⟩:=Kd.at_int HR0.out 1 p116003 q116003;obtain rfl:ad116002=ad116003:=(by injection e116003);(try simp only [show (1:Int).toNat=1 from rfl,Nat.reduceMul,Nat.reduceEqDiff,Go.Addr.add,↓reduceIte] at hx116003_0);have qi116003:(1 < l0.length)=True:=eq_true (by omega);(try rw [show ((1:Int)).toNat=1 from rfl] at hx116003_0);replace hx116003_0:=zx HB.out hx116003_0;replace p116003:=eq_true p116003;replace q116003:=eq_true q116003;have p116004:0≤(2:Int):=(by omega);have q116004:2 < (l0.length:Int):=of_decide_eq_true za9;obtain ⟨ad116004,e116004,hx116004_0⟩:=Kd.at_int HR0.out 2 p116004 q116004;obtain rfl:ad116002=ad116004:=(by injection e116004);(try simp only [show (2:Int).toNat=2 from rfl,Nat.reduceMul,Nat.reduceEqDiff,Go.Addr.add,↓reduceIte] at hx116004_0);have qi116004:(2 < l0.length)=True:=eq_true (by omega);(try rw [show ((2:Int)).toNat=2 from rfl] at hx116004_0);replace hx116004_0:=zx HB.out hx116004_0;replace p116004:=eq_true p116004;replace q116004:=eq_true q116004));try go_wp2_with (first|((with_reducible refine gate_dst (N:=3) rfl ?_);refine zE (N:=3) (cs:=#[.string a1_0,.string a1_1,.string a1_2]) (t:=32) ?_;intro gb116001 hg w6 hbox hb;have n0_:=zk (below_step za4 hb);have n1_:=zk (hbox);have n2_:=zk (zs (w:=w) hg za4);have n3_:=zk (zs (w:=w) hg za4);clear HB;have HB:=n0_;have BK116001:=n1_;have GW116001:=n2_;have GE116001:=n3_;clear n0_ n1_ n2_ n3_;clear hb hbox hg;have p116002:0≤(0:Int):=(by omega);have q116002:0 < (l0.length:Int):=of_decide_eq_true za9;obtain ⟨ad116002,e116002,hx116002_0⟩:=Kd.at_int HR0.out 0 p116002 q116002;cases e116002;have qi116002:(0 < l0.length)=True:=eq_true (by omega);(try rw [show ((0:Int)).toNat=0 from rfl] at hx116002_0);(try rw [Addr.add_zero'] at hx116002_0);replace hx116002_0:=zx HB.out hx116002_0;replace p116002:=eq_true p116002;replace q116002:=eq_true q116002;obtain ⟨hcz7_0,hcz7_1,hcz7_2,hfz7_0,hfz7_1,hfz7_2⟩:=blk3 BK116001.out;have p116003:0≤(1:Int):=(by omega);have q116003:1 < (l0.length:Int):=of_decide_eq_true za9;obtain ⟨ad116003,e116003,hx116003_0⟩:=Kd.at_int HR0.out 1 p116003 q116003;obtain rfl:ad116002=ad116003:=(by injection e116003);(try simp only [show (1:Int).toNat=1 from rfl,Nat.reduceMul,Nat.reduceEqDiff,Go.Addr.add,↓reduceIte] at hx116003_0);have qi116003:(1 < l0.length)=True:=eq_true (by omega);(try rw [show ((1:Int)).toNat=1 from rfl] at hx116003_0);replace hx116003_0:=zx HB.out hx116003_0;replace p116003:=eq_true p116003;replace q116003:=eq_true q116003;have p116004:0≤(2:Int):=(by omega);have q116004:2 < (l0.length:Int):=of_decide_eq_true za9;obtain ⟨ad116004,e116004,hx116004_0⟩:=Kd.at_int HR0.out 2 p116004 q116004;obtain rfl:ad116002=ad116004:=(by injection e116004);(try simp only [show (2:Int).toNat=2 from rfl,Nat.reduceMul,Nat.reduceEqDiff,Go.Addr.add,↓reduceIte] at hx116004_0);have qi116004:(2 < l0.length)=True:=eq_true (by omega);(try rw [show ((2:Int)).toNat=2 from rfl] at hx116004_0);replace hx116004_0:=zx HB.out hx116004_0;replace p116004:=eq_true p116004;replace q116004:=eq_true q116004)))
  go_ret
  exact ⟨za7,za4⟩
 ·rw [if_neg c5] at H
  exact absurd H (by simp)
 ·rw [if_neg c4] at H
  exact absurd H (by simp)
 ·rw [if_neg c3] at H
  exact absurd H (by simp)
def spec_l9Holds.f (k:Nat) (a0_0:Int) (a0_1:ByteArray) (a0_2:ByteArray) (a0_3:Int) (a0_4:ByteArray) (l0_5:List (S65)) (l0_6:List Int) (a0_7:Int) (a1_0:ByteArray) (a1_1:ByteArray) (a1_2:ByteArray):Option (Bool):=(spec_ApplyValues.f k a0_1 a1_0 a1_1 a1_2).bind fun t83003=>(if a0_0=1 then ((spec_ApplyValues.f k a0_2 a1_0 a1_1 a1_2).bind fun t83004=>(some (t83003.toList == t83004.toList))) else (if a0_0=2 then ((spec_ApplyValues.f k a0_2 a1_0 a1_1 a1_2).bind fun t83005=>(some (t83003.toList != t83005.toList))) else (if a0_0=3 then ((spec_l4Match.f a0_3 a0_4 l0_5 t83003).bind fun t83006=>(some t83006)) else (if a0_0=4 then ((spec_l4Match.f a0_3 a0_4 l0_5 t83003).bind fun t83007=>(some (!t83007))) else ((spec_l9Sum.f l0_6 a1_0 a1_1 a1_2).bind fun t83008=>(some (decide (t83008≤a0_7))))))))
theorem spec_l9Holds.mono:∀ a0 a1 a2 a3 a4 a5 a6 a7 a8 a9 a10 k,LeO (spec_l9Holds.f k a0 a1 a2 a3 a4 a5 a6 a7 a8 a9 a10) (spec_l9Holds.f (k+1) a0 a1 a2 a3 a4 a5 a6 a7 a8 a9 a10):=by
 intro a0 a1 a2 a3 a4 a5 a6 a7 a8 a9 a10 k
 unfold spec_l9Holds.f
 repeat' first
  | with_reducible first|exact spec_ApplyValues.mono _ _ _ _ _|exact LeO.refl _|exact LeO.none _|refine LeO.ite ?_ ?_|refine LeO.bind ?_ (fun _=>?_)
def spec_l9Holds.T11:Bool × List (List Nat × List Nat):=(true,[([],[]),([0],[0]),([],[]),([1,2],[1,2]),([],[]),([4],[4]),([3,5],[3,5]),([6,3,0,1,2,3,4,5,6],[6])])
def spec_l9Holds.B11:List Nat:=[0,1,0,7,0,16,63,127]
theorem spec_l9Holds.tab11:rtab .any (opsOf Tryz.f83 11)=spec_l9Holds.T11:=by kernel_rfl
theorem spec_l9Holds.bits11:waitsOk spec_l9Holds.T11.2 spec_l9Holds.B11=true:=by kernel_rfl
theorem spec_l9Holds.calls (k:Nat) (a0_0:Int) (a0_1:ByteArray) (a0_2:ByteArray) (a0_3:Int) (a0_4:ByteArray) (A0_5:Option Addr) (c0_5:Nat) (l0_5:List (S65)) (A0_6:Option Addr) (c0_6:Nat) (l0_6:List Int) (a0_7:Int) (a1_0:ByteArray) (a1_1:ByteArray) (a1_2:ByteArray) (r:Bool) (w:World) (hr0_5:Kd.C k65 w A0_5 l0_5.length l0_5) (hc0_5:l0_5.length≤c0_5) (hr0_6:Kd.C (Kd.int .i64) w A0_6 l0_6.length l0_6) (hc0_6:l0_6.length≤c0_6) (h:spec_l9Holds.f k a0_0 a0_1 a0_2 a0_3 a0_4 l0_5 l0_6 a0_7 a1_0 a1_1 a1_2=some r) :
   Calls Tryz.prog 83 #[.agg #[.int .i64 a0_0,.string a0_1,.string a0_2,.int .i64 a0_3,.string a0_4,.slice A0_5 l0_5.length c0_5,.slice A0_6 l0_6.length c0_6,.int .i64 a0_7],.agg #[.string a1_0,.string a1_1,.string a1_2]] w fun e w'=>e = .returned (.bool r)∧Below w.heap.size w w':=by
 have hu67:=Tryz.underlying67
 have hu32:=Tryz.underlying32
 have hu65:=Tryz.underlying65
 have HR0_5:=zk hr0_5
 have HC0_5:=zk hc0_5
 clear hr0_5 hc0_5
 have HR0_6:=zk hr0_6
 have HC0_6:=zk hc0_6
 clear hr0_6 hc0_6
 have HB:=zk (Below.refl w.heap.size w)
 have H:((spec_ApplyValues.f k a0_1 a1_0 a1_1 a1_2).bind fun t83003=>(if a0_0=1 then ((spec_ApplyValues.f k a0_2 a1_0 a1_1 a1_2).bind fun t83004=>(some (t83003.toList == t83004.toList))) else (if a0_0=2 then ((spec_ApplyValues.f k a0_2 a1_0 a1_1 a1_2).bind fun t83005=>(some (t83003.toList != t83005.toList))) else (if a0_0=3 then ((spec_l4Match.f a0_3 a0_4 l0_5 t83003).bind fun t83006=>(some t83006)) else (if a0_0=4 then ((spec_l4Match.f a0_3 a0_4 l0_5 t83003).bind fun t83007=>(some (!t83007))) else ((spec_l9Sum.f l0_6 a1_0 a1_1 a1_2).bind fun t83008=>(some (decide (t83008≤a0_7)))))))))=some r:=h
 clear h
 go_enter Tryz.func83,Tryz.ntmps83
 go_upto_region 1 with (first|((with_reducible refine gate_dst (N:=2) rfl ?_);refine zE (N:=2) (cs:=#[.int .i64 a0_0,.string a0_1,.string a0_2,.int .i64 a0_3,.string a0_4,.slice A0_5 l0_5.length c0_5,.slice A0_6 l0_6.length c0_6,.int .i64 a0_7]) (t:=67) ?_;intro gb83001 hg w47 hbox hb;have n0_:=zk (below_step za4 hb);have n1_:=zk (hbox);have n2_:=zk (zs (w:=w) hg za4);have n3_:=zk (zs (w:=w) hg za4);clear HB;have HB:=n0_;have BK83001:=n1_;have GW83001:=n2_;have GE83001:=n3_;clear n0_ n1_ n2_ n3_;clear hb hbox hg)|((with_reducible refine gate_dst (N:=3) rfl ?_);refine zE (N:=3) (cs:=#[.string a1_0,.string a1_1,.string a1_2]) (t:=32) ?_;intro gb83002 hg w48 hbox hb;have n0_:=zk (zb BK83001.out hb);have n1_:=zk (below_step za4 hb);have n2_:=zk (hbox);have n3_:=zk (zs (w:=w) hg za4);have n4_:=zk (zs (w:=w) hg za4);have n5_:=zk ((by rw [hg];exact Nat.ne_of_lt (zl BK83001.out):gb83001 ≠ gb83002));have n6_:=zk ((by rw [hg];exact Nat.ne_of_gt (zl BK83001.out):gb83002 ≠ gb83001));clear BK83001;clear HB;have BK83001:=n0_;have HB:=n1_;have BK83002:=n2_;have GW83002:=n3_;have GE83002:=n4_;have NB83001_83002:=n5_;have NB83002_83001:=n6_;clear n0_ n1_ n2_ n3_ n4_ n5_ n6_;clear hb hbox hg;have hnb49:=NB83001_83002.out;have hnc49:=NB83002_83001.out;obtain ⟨hcz50_0,hcz50_1,hcz50_2,hcz50_3,hcz50_4,hcz50_5,hcz50_6,hcz50_7,hfz50_0,hfz50_1,hfz50_2,hfz50_3,hfz50_4,hfz50_5,hfz50_6,hfz50_7⟩:=blk8 BK83001.out;obtain ⟨hcz51_0,hcz51_1,hcz51_2,hfz51_0,hfz51_1,hfz51_2⟩:=blk3 BK83002.out))
 replace H:=zo H
 obtain ⟨t83003,A30,H⟩:=H
 replace H:(if a0_0=1 then ((spec_ApplyValues.f k a0_2 a1_0 a1_1 a1_2).bind fun t83004=>(some (t83003.toList == t83004.toList))) else (if a0_0=2 then ((spec_ApplyValues.f k a0_2 a1_0 a1_1 a1_2).bind fun t83005=>(some (t83003.toList != t83005.toList))) else (if a0_0=3 then ((spec_l4Match.f a0_3 a0_4 l0_5 t83003).bind fun t83006=>(some t83006)) else (if a0_0=4 then ((spec_l4Match.f a0_3 a0_4 l0_5 t83003).bind fun t83007=>(some (!t83007))) else ((spec_l9Sum.f l0_6 a1_0 a1_1 a1_2).bind fun t83008=>(some (decide (t83008≤a0_7))))))))=some r:=H
 have A3:=zk A30
 clear A30
 by_cases c4:a0_0=1
 rw [if_pos c4] at H
 have c4b0:(a0_0 == 1)=true:=beq_iff_eq.mpr c4
 have c4b1:(a0_0 != 1)=false:=bne_eq_false_iff_eq.mpr c4
 clear c4
 replace H:=zo H
 obtain ⟨t83004,A50,H⟩:=H
 replace H:(some (t83003.toList == t83004.toList))=some r:=H
 have A5:=zk A50
 clear A50
 have tag1_:=zk trivial
 rotate_left
 rw [if_neg c4] at H
 have c4b0:(a0_0 == 1)=false:=beq_eq_false_iff_ne.mpr c4
 have c4b1:(a0_0 != 1)=true:=bne_iff_ne.mpr c4
 by_cases c15:a0_0=2
 rw [if_pos c15] at H
 have c15b0:(a0_0 == 2)=true:=beq_iff_eq.mpr c15
 have c15b1:(a0_0 != 2)=false:=bne_eq_false_iff_eq.mpr c15
 clear c15
 replace H:=zo H
 obtain ⟨t83005,A160,H⟩:=H
 replace H:(some (t83003.toList != t83005.toList))=some r:=H
 have A16:=zk A160
 clear A160
 have tag0_:=zk trivial
 rotate_left
 rw [if_neg c15] at H
 have c15b0:(a0_0 == 2)=false:=beq_eq_false_iff_ne.mpr c15
 have c15b1:(a0_0 != 2)=true:=bne_iff_ne.mpr c15
 by_cases c26:a0_0=3
 rw [if_pos c26] at H
 have c26b0:(a0_0 == 3)=true:=beq_iff_eq.mpr c26
 have c26b1:(a0_0 != 3)=false:=bne_eq_false_iff_eq.mpr c26
 clear c26
 replace H:=zo H
 obtain ⟨t83006,A270,H⟩:=H
 replace H:(some t83006)=some r:=H
 have A27:=zk A270
 clear A270
 have tag0_:=zk trivial
 rotate_left
 rw [if_neg c26] at H
 have c26b0:(a0_0 == 3)=false:=beq_eq_false_iff_ne.mpr c26
 have c26b1:(a0_0 != 3)=true:=bne_iff_ne.mpr c26
 by_cases c36:a0_0=4
 rw [if_pos c36] at H
 have c36b0:(a0_0 == 4)=true:=beq_iff_eq.mpr c36
 have c36b1:(a0_0 != 4)=false:=bne_eq_false_iff_eq.mpr c36
 clear c36
 replace H:=zo H
 obtain ⟨t83007,A370,H⟩:=H
 replace H:(some (!t83007))=some r:=H
 have A37:=zk A370
 clear A370
 have tag1_:=zk trivial
 rotate_left
 · rw [if_neg c36] at H
   have c36b0:(a0_0 == 4)=false:=beq_eq_false_iff_ne.mpr c36
   have c36b1:(a0_0 != 4)=true:=bne_iff_ne.mpr c36
   replace H:=zo H
   obtain ⟨t83008,A460,H⟩:=H
   replace H:(some (decide (t83008≤a0_7)))=some r:=H
   have A46:=zk A460
   clear A460
   obtain rfl:=zi H
   go_wp2_with (first|((with_reducible refine gate_callee (f:=114) rfl ?_);refine goesL_ (some 9) rfl rfl Tryz.func114 (by kernel_rfl) rfl #[.string a0_1,.agg #[.string a1_0,.string a1_1,.string a1_2]] rfl za5 ?_;(with_reducible refine (spec_ApplyValues.calls k a0_1 a1_0 a1_1 a1_2 t83003 _ A3.out).mono ?_);rintro e w52 ⟨rfl,hb⟩;refine ⟨_,rfl,?_⟩;have n0_:=zk (zb BK83001.out hb);have n1_:=zk (zb BK83002.out hb);have n2_:=zk (below_step za4 hb);clear BK83001;clear BK83002;clear HB;have BK83001:=n0_;have BK83002:=n1_;have HB:=n2_;clear n0_ n1_ n2_;(try clear hb);(try clear hb2);(try clear hk);(try clear hi);obtain ⟨hcz53_0,hcz53_1,hcz53_2,hcz53_3,hcz53_4,hcz53_5,hcz53_6,hcz53_7,hfz53_0,hfz53_1,hfz53_2,hfz53_3,hfz53_4,hfz53_5,hfz53_6,hfz53_7⟩:=blk8 BK83001.out))
   have n0_:=zk (blk_drew BK83001.out)
   have n1_:=zk (blk_drew BK83002.out)
   have n2_:=zk (below_drew1 HB.out)
   clear BK83001
   clear BK83002
   clear HB
   have BK83001:=n0_
   have BK83002:=n1_
   have HB:=n2_
   clear n0_ n1_ n2_
   refine start_ (n:=8) (S:=fun w'=>w'.cell? ⟨gb83001,0,none⟩=some (.int .i64 a0_0)∧w'.cell? ⟨gb83001,1,none⟩=some (.string a0_1)∧w'.cell? ⟨gb83001,2,none⟩=some (.string a0_2)∧w'.cell? ⟨gb83001,3,none⟩=some (.int .i64 a0_3)∧w'.cell? ⟨gb83001,4,none⟩=some (.string a0_4)∧w'.cell? ⟨gb83001,5,none⟩=some (.slice A0_5 l0_5.length c0_5)∧w'.cell? ⟨gb83001,6,none⟩=some (.slice A0_6 l0_6.length c0_6)∧w'.cell? ⟨gb83001,7,none⟩=some (.int .i64 a0_7)∧w'.cell? ⟨gb83002,0,none⟩=some (.string a1_0)∧w'.cell? ⟨gb83002,1,none⟩=some (.string a1_1)∧w'.cell? ⟨gb83002,2,none⟩=some (.string a1_2)) (ds:=[]) #[false,false,false,false,false,false,false,false] (by kernel_rfl) rfl rfl ⟨(blk_cell BK83001.out 0).trans rfl,(blk_cell BK83001.out 1).trans rfl,(blk_cell BK83001.out 2).trans rfl,(blk_cell BK83001.out 3).trans rfl,(blk_cell BK83001.out 4).trans rfl,(blk_cell BK83001.out 5).trans rfl,(blk_cell BK83001.out 6).trans rfl,(blk_cell BK83001.out 7).trans rfl,(blk_cell BK83002.out 0).trans rfl,(blk_cell BK83002.out 1).trans rfl,(blk_cell BK83002.out 2).trans rfl⟩ (fun hHeld=>?_);refine with_tabW spec_l9Holds.tab11 spec_l9Holds.bits11 (fun HT_ HW_=>?_)
   generalize w52.drew=w54 at BK83001 BK83002 HB hHeld ⊢
   refine pure_ (i:=0) (N:=some 41) (v:=?_) (a':=?_) #[true,false,false,false,false,false,false,false] rfl rfl (any_of HT_.out (by kernel_rfl)) (fun _ _ _ h=>h) (Or.inl ⟨by rfl,?_⟩) ?_ ?_
   rotate_left
   ·intro w'
    go_simp
    first|with_reducible rfl|(rw [if_neg (by omega)];done)
   rotate_left
   ·simp only [Act.put,zt,zu,zv,i64_w,i32_w]
    rfl
   refine pure_ (i:=4) (N:=some 45) (v:=?_) (a':=?_) #[true,false,false,false,true,false,false,false] rfl rfl (any_of HT_.out (by kernel_rfl)) (fun _ _ _ h=>h) (Or.inl ⟨by rfl,?_⟩) ?_ ?_
   rotate_left
   ·intro w'
    go_simp
    first|with_reducible rfl|(rw [if_neg (by omega)];done)
   rotate_left
   ·simp only [Act.put,zt,zu,zv,i64_w,i32_w]
    rfl
   refine take_ (i:=1) (N:=some 42) (v:=?_) (a':=?_) #[true,true,false,false,true,false,false,false] rfl rfl (take_ofW HT_.out HW_.out (by kernel_rfl)) (fun _ _ _ h=>h) (Or.inl ⟨by rfl,?_⟩) hHeld ?_ ?_
   rotate_left
   ·rintro w' ⟨s0,s1,s2,s3,s4,s5,s6,s7,s8,s9,s10⟩
    go_simp
    first|with_reducible rfl|(rw [if_neg (by omega)];done)
   rotate_left
   ·simp only [Act.put,zt,zu,zv,i64_w,i32_w]
    rfl
   refine take_ (i:=2) (N:=some 43) (v:=?_) (a':=?_) #[true,true,true,false,true,false,false,false] rfl rfl (take_ofW HT_.out HW_.out (by kernel_rfl)) (fun _ _ _ h=>h) (Or.inl ⟨by rfl,?_⟩) hHeld ?_ ?_
   rotate_left
   ·rintro w' ⟨s0,s1,s2,s3,s4,s5,s6,s7,s8,s9,s10⟩
    go_simp
    first|with_reducible rfl|(rw [if_neg (by omega)];done)
   rotate_left
   ·simp only [Act.put,zt,zu,zv,i64_w,i32_w]
    rfl
   refine take_ (i:=5) (N:=some 46) (v:=?_) (a':=?_) #[true,true,true,false,true,true,false,false] rfl rfl (take_ofW HT_.out HW_.out (by kernel_rfl)) (fun _ _ _ h=>h) (Or.inl ⟨by rfl,?_⟩) hHeld ?_ ?_
   rotate_left
   ·rintro w' ⟨s0,s1,s2,s3,s4,s5,s6,s7,s8,s9,s10⟩
    go_simp
    first|with_reducible rfl|(rw [if_neg (by omega)];done)
   rotate_left
   ·simp only [Act.put,zt,zu,zv,i64_w,i32_w]
    rfl
   refine one_ (i:=3) (N:=some 44) #[true,true,true,true,true,true,false,false] rfl rfl (one_of HT_.out (by kernel_rfl)) (by decide) (fun K hK=>?_)
   refine goes_ Tryz.func116 (by kernel_rfl) rfl #[.slice A0_6 l0_6.length c0_6,.agg #[.string a1_0,.string a1_1,.string a1_2]] (by rfl) rfl rfl za5 ?_
   with_reducible refine (spec_l9Sum.calls _ _ l0_6 a1_0 a1_1 a1_2 t83008 _ ?side1 ?side2 A46.out).mono ?_
   (case side1=>repeat (first|exact (Kd.C_below HR0_6.out HB.out)|(with_reducible refine Kd.C_alloc ?_ _)|(with_reducible refine Kd.C_drewN ?_ _)|(with_reducible refine Kd.C_drew ?_)))
   (case side2=>exact HC0_6.out)
   rintro e w55 ⟨rfl,hb⟩
   refine ⟨_,rfl,?_⟩
   have n0_:=zk (zb BK83001.out hb)
   have n1_:=zk (zb BK83002.out hb)
   have n2_:=zk (below_step za4 hb)
   clear BK83001
   clear BK83002
   clear HB
   have BK83001:=n0_
   have BK83002:=n1_
   have HB:=n2_
   clear n0_ n1_ n2_
   (try clear hb)
   (try clear hb2)
   (try clear hk)
   (try clear hi)
   refine hK.out _ _ ⟨(blk_cell BK83001.out 0).trans rfl,(blk_cell BK83001.out 1).trans rfl,(blk_cell BK83001.out 2).trans rfl,(blk_cell BK83001.out 3).trans rfl,(blk_cell BK83001.out 4).trans rfl,(blk_cell BK83001.out 5).trans rfl,(blk_cell BK83001.out 6).trans rfl,(blk_cell BK83001.out 7).trans rfl,(blk_cell BK83002.out 0).trans rfl,(blk_cell BK83002.out 1).trans rfl,(blk_cell BK83002.out 2).trans rfl⟩ (fun hHeld=>?_)
   clear hK K
   refine norm_ (a':=?_) ?_ ?_
   rotate_left
   ·show Act.put _ (some 44) _=_
    simp only [Act.put,zt,zu,zv,i64_w,i32_w]
    rfl
   refine pure_ (i:=6) (N:=some 47) (v:=?_) (a':=?_) #[true,true,true,true,true,true,true,false] rfl rfl (any_of HT_.out (by kernel_rfl)) (fun _ _ _ h=>h) (Or.inl ⟨by rfl,?_⟩) ?_ ?_
   rotate_left
   ·intro w'
    go_simp
    first|with_reducible rfl|(rw [if_neg (by omega)];done)
   rotate_left
   ·simp only [Act.put,zt,zu,zv,i64_w,i32_w]
    rfl
   refine pure_ (i:=7) (N:=some 4) (v:=?_) (a':=?_) #[true,true,true,true,true,true,true,true] rfl rfl (any_of HT_.out (by kernel_rfl)) (fun _ _ _ h=>h) (Or.inl ⟨by rfl,?_⟩) ?_ ?_
   rotate_left
   ·intro w'
    go_simp
    first|with_reducible rfl|(rw [if_neg (by omega)];done)
   rotate_left
   ·simp only [Act.put,zt,zu,zv,i64_w,i32_w]
    rfl
   refine done_ (done_of HT_.out (by kernel_rfl)) ?_
   try go_wp2
   go_ret
   exact ⟨za7,za4⟩
 all_goals first
  | (
    clear tag0_
    obtain rfl:=zi H
    go_wp2_with (first|((with_reducible refine gate_callee (f:=114) rfl ?_);refine goesL_ (some 9) rfl rfl Tryz.func114 (by kernel_rfl) rfl #[.string a0_1,.agg #[.string a1_0,.string a1_1,.string a1_2]] rfl za5 ?_;(with_reducible refine (spec_ApplyValues.calls k a0_1 a1_0 a1_1 a1_2 t83003 _ A3.out).mono ?_);rintro e w22 ⟨rfl,hb⟩;refine ⟨_,rfl,?_⟩;have n0_:=zk (zb BK83001.out hb);have n1_:=zk (zb BK83002.out hb);have n2_:=zk (below_step za4 hb);clear BK83001;clear BK83002;clear HB;have BK83001:=n0_;have BK83002:=n1_;have HB:=n2_;clear n0_ n1_ n2_;(try clear hb);(try clear hb2);(try clear hk);(try clear hi);obtain ⟨hcz23_0,hcz23_1,hcz23_2,hcz23_3,hcz23_4,hcz23_5,hcz23_6,hcz23_7,hfz23_0,hfz23_1,hfz23_2,hfz23_3,hfz23_4,hfz23_5,hfz23_6,hfz23_7⟩:=blk8 BK83001.out;obtain ⟨hcz24_0,hcz24_1,hcz24_2,hfz24_0,hfz24_1,hfz24_2⟩:=blk3 BK83002.out)|((with_reducible refine gate_callee (f:=115) rfl ?_);refine goesL_ (some 33) rfl rfl Tryz.func115 (by kernel_rfl) rfl #[.agg #[.int .i64 a0_3,.string a0_4,.slice A0_5 l0_5.length c0_5],.string t83003] rfl za5 ?_;(with_reducible refine (spec_l4Match.calls a0_3 a0_4 _ _ l0_5 t83003 t83006 _ ?side1 ?side2 A27.out).mono ?_);(case side1=>repeat (first|exact (Kd.C_below HR0_5.out HB.out)|(with_reducible refine Kd.C_alloc ?_ _)|(with_reducible refine Kd.C_drewN ?_ _)|(with_reducible refine Kd.C_drew ?_)));(case side2=>exact HC0_5.out);rintro e w35 ⟨rfl,hb⟩;refine ⟨_,rfl,?_⟩;have n0_:=zk (zb BK83001.out hb);have n1_:=zk (zb BK83002.out hb);have n2_:=zk (below_step za4 hb);clear BK83001;clear BK83002;clear HB;have BK83001:=n0_;have BK83002:=n1_;have HB:=n2_;clear n0_ n1_ n2_;(try clear hb);(try clear hb2);(try clear hk);(try clear hi))|((with_reducible refine gate_callee (f:=114) rfl ?_);refine goesL_ (some 26) rfl rfl Tryz.func114 (by kernel_rfl) rfl #[.string a0_2,.agg #[.string a1_0,.string a1_1,.string a1_2]] rfl za5 ?_;(with_reducible refine (spec_ApplyValues.calls k a0_2 a1_0 a1_1 a1_2 t83005 _ A16.out).mono ?_);rintro e w25 ⟨rfl,hb⟩;refine ⟨_,rfl,?_⟩;have n0_:=zk (zb BK83001.out hb);have n1_:=zk (zb BK83002.out hb);have n2_:=zk (below_step za4 hb);clear BK83001;clear BK83002;clear HB;have BK83001:=n0_;have BK83002:=n1_;have HB:=n2_;clear n0_ n1_ n2_;(try clear hb);(try clear hb2);(try clear hk);(try clear hi)))
    go_ret
    exact ⟨za7,za4⟩)
  | (
    clear tag1_
    obtain rfl:=zi H
    go_wp2_with (first|((with_reducible refine gate_callee (f:=114) rfl ?_);refine goesL_ (some 9) rfl rfl Tryz.func114 (by kernel_rfl) rfl #[.string a0_1,.agg #[.string a1_0,.string a1_1,.string a1_2]] rfl za5 ?_;(with_reducible refine (spec_ApplyValues.calls k a0_1 a1_0 a1_1 a1_2 t83003 _ A3.out).mono ?_);rintro e w11 ⟨rfl,hb⟩;refine ⟨_,rfl,?_⟩;have n0_:=zk (zb BK83001.out hb);have n1_:=zk (zb BK83002.out hb);have n2_:=zk (below_step za4 hb);clear BK83001;clear BK83002;clear HB;have BK83001:=n0_;have BK83002:=n1_;have HB:=n2_;clear n0_ n1_ n2_;(try clear hb);(try clear hb2);(try clear hk);(try clear hi);obtain ⟨hcz12_0,hcz12_1,hcz12_2,hcz12_3,hcz12_4,hcz12_5,hcz12_6,hcz12_7,hfz12_0,hfz12_1,hfz12_2,hfz12_3,hfz12_4,hfz12_5,hfz12_6,hfz12_7⟩:=blk8 BK83001.out;obtain ⟨hcz13_0,hcz13_1,hcz13_2,hfz13_0,hfz13_1,hfz13_2⟩:=blk3 BK83002.out)|((with_reducible refine gate_callee (f:=115) rfl ?_);refine goesL_ (some 39) rfl rfl Tryz.func115 (by kernel_rfl) rfl #[.agg #[.int .i64 a0_3,.string a0_4,.slice A0_5 l0_5.length c0_5],.string t83003] rfl za5 ?_;(with_reducible refine (spec_l4Match.calls a0_3 a0_4 _ _ l0_5 t83003 t83007 _ ?side1 ?side2 A37.out).mono ?_);(case side1=>repeat (first|exact (Kd.C_below HR0_5.out HB.out)|(with_reducible refine Kd.C_alloc ?_ _)|(with_reducible refine Kd.C_drewN ?_ _)|(with_reducible refine Kd.C_drew ?_)));(case side2=>exact HC0_5.out);rintro e w45 ⟨rfl,hb⟩;refine ⟨_,rfl,?_⟩;have n0_:=zk (zb BK83001.out hb);have n1_:=zk (zb BK83002.out hb);have n2_:=zk (below_step za4 hb);clear BK83001;clear BK83002;clear HB;have BK83001:=n0_;have BK83002:=n1_;have HB:=n2_;clear n0_ n1_ n2_;(try clear hb);(try clear hb2);(try clear hk);(try clear hi))|((with_reducible refine gate_callee (f:=114) rfl ?_);refine goesL_ (some 18) rfl rfl Tryz.func114 (by kernel_rfl) rfl #[.string a0_2,.agg #[.string a1_0,.string a1_1,.string a1_2]] rfl za5 ?_;(with_reducible refine (spec_ApplyValues.calls k a0_2 a1_0 a1_1 a1_2 t83004 _ A5.out).mono ?_);rintro e w14 ⟨rfl,hb⟩;refine ⟨_,rfl,?_⟩;have n0_:=zk (zb BK83001.out hb);have n1_:=zk (zb BK83002.out hb);have n2_:=zk (below_step za4 hb);clear BK83001;clear BK83002;clear HB;have BK83001:=n0_;have BK83002:=n1_;have HB:=n2_;clear n0_ n1_ n2_;(try clear hb);(try clear hb2);(try clear hk);(try clear hi)))
    go_ret
    exact ⟨za7,za4⟩)
def spec_IsValidProblem.l0:Nat→Int→List (S67)→Option (Bool)
 | 0,_,_=>none
 | k+1,x3,x35002000=>if x3 < (x35002000.length:Int) then (if 0≤x3 then ((spec_IsValidConstraint.f k ((rd_T67 x35002000 x3).f0) ((rd_T67 x35002000 x3).f1) ((rd_T67 x35002000 x3).f2) ((rd_T67 x35002000 x3).f3.f0) ((rd_T67 x35002000 x3).f3.f1) ((rd_T67 x35002000 x3).f3.f2) ((rd_T67 x35002000 x3).f4) ((rd_T67 x35002000 x3).f5)).bind fun t35003=>(if t35003=true then (spec_IsValidProblem.l0 k (wrap64 (x3+1)) x35002000) else (some false))) else (none)) else (some (decide ((x35002000.length:Int)≤6)))
def spec_IsValidProblem.f (k:Nat) (l0_0:List (S67)):Option (Bool):=spec_IsValidProblem.l0 k 0 l0_0
theorem spec_IsValidProblem.mono_l:∀ k,(∀ y0 y1,LeO (spec_IsValidProblem.l0 k y0 y1) (spec_IsValidProblem.l0 (k+1) y0 y1))
 | 0=>fun _ _ r h=>by simp [spec_IsValidProblem.l0] at h
 | k+1=>by
  have ih0:=spec_IsValidProblem.mono_l k
  ·intro y0 y1
   unfold spec_IsValidProblem.l0
   repeat' first
   | with_reducible first|exact ih0 _ _|exact spec_IsValidConstraint.mono _ _ _ _ _ _ _ _ _|exact LeO.refl _|exact LeO.none _|refine LeO.ite ?_ ?_|refine LeO.bind ?_ (fun _=>?_)
theorem spec_IsValidProblem.mono:∀ a0 k,LeO (spec_IsValidProblem.f k a0) (spec_IsValidProblem.f (k+1) a0):=by
 intro a0 k
 have ih0:=spec_IsValidProblem.mono_l k
 unfold spec_IsValidProblem.f
 repeat' first
  | with_reducible first|exact ih0 _ _|exact spec_IsValidConstraint.mono _ _ _ _ _ _ _ _ _|exact LeO.refl _|exact LeO.none _|refine LeO.ite ?_ ?_|refine LeO.bind ?_ (fun _=>?_)
theorem spec_IsValidProblem.calls (k:Nat) (A0_0:Option Addr) (c0_0:Nat) (l0_0:List (S67)) (r:Bool) (w:World) (hr0_0:Kd.C k67 w A0_0 l0_0.length l0_0) (hc0_0:l0_0.length≤c0_0) (h:spec_IsValidProblem.f k l0_0=some r) :
   Calls Tryz.prog 35 #[.agg #[.slice A0_0 l0_0.length c0_0]] w fun e w'=>e = .returned (.bool r)∧Below w.heap.size w w':=by
 have hu26:=Tryz.underlying26
 have hu67:=Tryz.underlying67
 have HR0_0:=zk hr0_0
 have HC0_0:=zk hc0_0
 clear hr0_0 hc0_0
 have HB:=zk (Below.refl w.heap.size w)
 have H:(spec_IsValidProblem.l0 k 0 l0_0)=some r:=h
 clear h
 have H':=zk H
 clear H
 go_enter Tryz.func35,Tryz.ntmps35
 go_wp2_with (first|((with_reducible refine gate_dst (N:=1) rfl ?_);refine zE (N:=1) (cs:=#[.slice A0_0 l0_0.length c0_0]) (t:=26) ?_;intro gb35001 hg w2 hbox hb;have n0_:=zk (below_step za4 hb);have n1_:=zk (hbox);have n2_:=zk (zs (w:=w) hg za4);have n3_:=zk (zs (w:=w) hg za4);clear HB;have HB:=n0_;have BK35001:=n1_;have GW35001:=n2_;have GE35001:=n3_;clear n0_ n1_ n2_ n3_;clear hb hbox hg))
 first|go_loopg [3] k (fun kq v3 w'=>∃ (x3_1:Int),v3 = .int .i64 x3_1∧Aside0 (spec_IsValidProblem.l0 kq x3_1 l0_0=some r)∧Aside0 (kq≤k)∧Aside0 (w'.heap[gb35001]? = some (.cells #[(.slice A0_0 l0_0.length c0_0)] 26 (0,0)))∧Aside0 (Below w.heap.size w w'))|(simp only [Act.put,zt,zv,zu];go_loopg [3] k (fun kq v3 w'=>∃ (x3_1:Int),v3 = .int .i64 x3_1∧Aside0 (spec_IsValidProblem.l0 kq x3_1 l0_0=some r)∧Aside0 (kq≤k)∧Aside0 (w'.heap[gb35001]? = some (.cells #[(.slice A0_0 l0_0.length c0_0)] 26 (0,0)))∧Aside0 (Below w.heap.size w w')))
 case atStart=>exact ⟨(0),za8,H',⟨Nat.le_refl _⟩,⟨za0 BK35001.out⟩,⟨za4⟩⟩
 case round =>
  clear H'
  obtain ⟨x3_1,rfl,HA,HK1,BK35001,HB⟩:=hrel
  cases gk with
  | zero=>exact absurd HA.out (by simp [spec_IsValidProblem.l0])
  | succ k1 =>
   have H:=HA.out
   clear HA
   simp only [spec_IsValidProblem.l0] at H
   by_cases c3:x3_1 < (l0_0.length:Int)
   rw [if_pos c3] at H
   have c3b0:decide (x3_1 < (l0_0.length:Int))=true:=decide_eq_true c3
   clear c3
   by_cases c4:0≤x3_1
   rw [if_pos c4] at H
   have c4b0:decide (0≤x3_1)=true:=decide_eq_true c4
   clear c4
   replace H:=zo H
   obtain ⟨t35003,A50,H⟩:=H
   replace H:(if t35003=true then (spec_IsValidProblem.l0 k1 (wrap64 (x3_1+1)) l0_0) else (some false))=some r:=H
   have A5:=zk A50
   clear A50
   by_cases c6:t35003=true
   subst c6
   have H1:(spec_IsValidProblem.l0 k1 (wrap64 (x3_1+1)) l0_0)=some r:=by rw [if_pos rfl] at H;exact H
   clear H
   have H:=H1
   clear H1
   have H':=zk H
   clear H
   have fin1_:=zk trivial
   rotate_left
   replace c6:=Bool.eq_false_iff.mpr c6
   subst c6
   have H1:(some false)=some r:=by rw [if_neg (show ¬ (false=true) by decide)] at H;exact H
   clear H
   have H:=H1
   clear H1
   obtain rfl:=zi H
   have fin0_:=zk trivial
   rotate_left
   · rw [if_neg c4] at H
     exact absurd H (by simp)
   · rw [if_neg c3] at H
     have c3b0:decide (x3_1 < (l0_0.length:Int))=false:=decide_eq_false c3
     clear c3
     obtain rfl:=zi H
     obtain ⟨hcz11_0,hfz11_0⟩:=blk1 BK35001.out
     go_wp2
     go_ret
     exact ⟨za7,za4⟩
   all_goals
    obtain ⟨hcz9_0,hfz9_0⟩:=blk1 BK35001.out
    have p35002:0≤(x3_1:Int):=of_decide_eq_true za9
    have q35002:x3_1 < (l0_0.length:Int):=of_decide_eq_true za9
    obtain ⟨ad35002,A35002_5,c35002_5,A35002_6,c35002_6,e35002,hx35002_0,hx35002_1,hx35002_2,hx35002_3,hx35002_4,hx35002_5,hx35002_6,hx35002_7,hl35002_5,hi35002_5,hl35002_6,hi35002_6⟩:=at_T67 HR0_0.out x3_1 p35002 q35002
    cases e35002
    replace hx35002_0:=zx HB.out hx35002_0
    replace hx35002_1:=zx HB.out hx35002_1
    replace hx35002_2:=zx HB.out hx35002_2
    replace hx35002_3:=zx HB.out hx35002_3
    replace hx35002_4:=zx HB.out hx35002_4
    replace hx35002_5:=zx HB.out hx35002_5
    replace hx35002_6:=zx HB.out hx35002_6
    replace hx35002_7:=zx HB.out hx35002_7
    have HR35002_5:=zk hi35002_5
    have HC35002_5:=zk hl35002_5
    clear hi35002_5 hl35002_5
    have HR35002_6:=zk hi35002_6
    have HC35002_6:=zk hl35002_6
    clear hi35002_6 hl35002_6
    replace p35002:=eq_true p35002
    replace q35002:=eq_true q35002
    go_wp2_with (((with_reducible refine gate_callee (f:=69) rfl ?_);refine goesL_ (some 16) rfl rfl Tryz.func69 (by kernel_rfl) rfl #[.agg #[.int .i64 ((rd_T67 l0_0 x3_1).f0),.string ((rd_T67 l0_0 x3_1).f1),.string ((rd_T67 l0_0 x3_1).f2),.int .i64 ((rd_T67 l0_0 x3_1).f3.f0),.string ((rd_T67 l0_0 x3_1).f3.f1),.slice A35002_5 ((rd_T67 l0_0 x3_1).f3.f2).length c35002_5,.slice A35002_6 ((rd_T67 l0_0 x3_1).f4).length c35002_6,.int .i64 ((rd_T67 l0_0 x3_1).f5)]] rfl za5 ?_;(with_reducible refine (spec_IsValidConstraint.calls k1 ((rd_T67 l0_0 x3_1).f0) ((rd_T67 l0_0 x3_1).f1) ((rd_T67 l0_0 x3_1).f2) ((rd_T67 l0_0 x3_1).f3.f0) ((rd_T67 l0_0 x3_1).f3.f1) _ _ ((rd_T67 l0_0 x3_1).f3.f2) _ _ ((rd_T67 l0_0 x3_1).f4) ((rd_T67 l0_0 x3_1).f5) _ _ ?side1 ?side2 ?side3 ?side4 A5.out).mono ?_);(case side1=>repeat (first|exact (Kd.C_below HR35002_5.out HB.out)|(with_reducible refine Kd.C_alloc ?_ _)|(with_reducible refine Kd.C_drewN ?_ _)|(with_reducible refine Kd.C_drew ?_)));(case side2=>exact HC35002_5.out);(case side3=>repeat (first|exact (Kd.C_below HR35002_6.out HB.out)|(with_reducible refine Kd.C_alloc ?_ _)|(with_reducible refine Kd.C_drewN ?_ _)|(with_reducible refine Kd.C_drew ?_)));(case side4=>exact HC35002_6.out);rintro e w10 ⟨rfl,hb⟩;refine ⟨_,rfl,?_⟩;have n0_:=zk (zb BK35001.out hb);have n1_:=zk (below_step za4 hb);clear BK35001;clear HB;have BK35001:=n0_;have HB:=n1_;clear n0_ n1_;(try clear hb);(try clear hb2);(try clear hk);(try clear hi)))
    first
    | (
      clear fin0_
      go_ret
      exact ⟨za7,za4⟩)
    | (
      clear fin1_
      go_roundg k1
      case measure=>have:=HK1.out;omega
      case rel=>exact ⟨(wrap64 (x3_1+1)),za8,H',⟨za17⟩,⟨za0 BK35001.out⟩,⟨za4⟩⟩)
def spec_VarsOfProblem.l0:Nat→ByteArray→Int→List (S67)→Option (ByteArray)
 | 0,_,_,_=>none
 | k+1,x3,x4,x39002000=>if x4 < (x39002000.length:Int) then ((spec_IsValidProblem.f k x39002000).bind fun t39002=>(if t39002=true then (if 0≤x4 then ((spec_VarsOfConstraint.f k ((rd_T67 x39002000 x4).f0) ((rd_T67 x39002000 x4).f1) ((rd_T67 x39002000 x4).f2) ((rd_T67 x39002000 x4).f3.f0) ((rd_T67 x39002000 x4).f3.f1) ((rd_T67 x39002000 x4).f3.f2) ((rd_T67 x39002000 x4).f4) ((rd_T67 x39002000 x4).f5)).bind fun t39004=>(if x3.size+t39004.size≤9223372036854775807 then (spec_VarsOfProblem.l0 k (x3 ++ t39004) (wrap64 (x4+1)) x39002000) else (none))) else (none)) else ((spec_VarsOf.f k x3).bind fun t39005=>(some t39005)))) else ((spec_VarsOf.f k x3).bind fun t39006=>(some t39006))
def spec_VarsOfProblem.f (k:Nat) (l0_0:List (S67)):Option (ByteArray):=spec_VarsOfProblem.l0 k (⟨#[]⟩:ByteArray) 0 l0_0
theorem spec_VarsOfProblem.mono_l:∀ k,(∀ y0 y1 y2,LeO (spec_VarsOfProblem.l0 k y0 y1 y2) (spec_VarsOfProblem.l0 (k+1) y0 y1 y2))
 | 0=>fun _ _ _ r h=>by simp [spec_VarsOfProblem.l0] at h
 | k+1=>by
  have ih0:=spec_VarsOfProblem.mono_l k
  ·intro y0 y1 y2
   unfold spec_VarsOfProblem.l0
   repeat' first
   | with_reducible first|exact ih0 _ _ _|exact spec_IsValidProblem.mono _ _|exact spec_VarsOf.mono _ _|exact spec_VarsOfConstraint.mono _ _ _ _ _ _ _ _ _|exact LeO.refl _|exact LeO.none _|refine LeO.ite ?_ ?_|refine LeO.bind ?_ (fun _=>?_)
theorem spec_VarsOfProblem.mono:∀ a0 k,LeO (spec_VarsOfProblem.f k a0) (spec_VarsOfProblem.f (k+1) a0):=by
 intro a0 k
 have ih0:=spec_VarsOfProblem.mono_l k
 unfold spec_VarsOfProblem.f
 repeat' first
  | with_reducible first|exact ih0 _ _ _|exact spec_IsValidProblem.mono _ _|exact spec_VarsOf.mono _ _|exact spec_VarsOfConstraint.mono _ _ _ _ _ _ _ _ _|exact LeO.refl _|exact LeO.none _|refine LeO.ite ?_ ?_|refine LeO.bind ?_ (fun _=>?_)
theorem spec_VarsOfProblem.calls (k:Nat) (A0_0:Option Addr) (c0_0:Nat) (l0_0:List (S67)) (r:ByteArray) (w:World) (hr0_0:Kd.C k67 w A0_0 l0_0.length l0_0) (hc0_0:l0_0.length≤c0_0) (h:spec_VarsOfProblem.f k l0_0=some r) :
   Calls Tryz.prog 39 #[.agg #[.slice A0_0 l0_0.length c0_0]] w fun e w'=>e = .returned (.string r)∧Below w.heap.size w w':=by
 have hu26:=Tryz.underlying26
 have hu67:=Tryz.underlying67
 have HR0_0:=zk hr0_0
 have HC0_0:=zk hc0_0
 clear hr0_0 hc0_0
 have HB:=zk (Below.refl w.heap.size w)
 have H:(spec_VarsOfProblem.l0 k (⟨#[]⟩:ByteArray) 0 l0_0)=some r:=h
 clear h
 have H':=zk H
 clear H
 go_enter Tryz.func39,Tryz.ntmps39
 go_wp2_with (first|((with_reducible refine gate_dst (N:=1) rfl ?_);refine zE (N:=1) (cs:=#[.slice A0_0 l0_0.length c0_0]) (t:=26) ?_;intro gb39001 hg w2 hbox hb;have n0_:=zk (below_step za4 hb);have n1_:=zk (hbox);have n2_:=zk (zs (w:=w) hg za4);have n3_:=zk (zs (w:=w) hg za4);clear HB;have HB:=n0_;have BK39001:=n1_;have GW39001:=n2_;have GE39001:=n3_;clear n0_ n1_ n2_ n3_;clear hb hbox hg))
 first|go_loopg [3,4] k (fun kq v3 v4 w'=>∃ (x3_1:ByteArray) (x4_1:Int),v3 = .string x3_1∧v4 = .int .i64 x4_1∧Aside0 (spec_VarsOfProblem.l0 kq x3_1 x4_1 l0_0=some r)∧Aside0 (kq≤k)∧Aside0 (w'.heap[gb39001]? = some (.cells #[(.slice A0_0 l0_0.length c0_0)] 26 (0,0)))∧Aside0 (Below w.heap.size w w'))|(simp only [Act.put,zt,zv,zu];go_loopg [3,4] k (fun kq v3 v4 w'=>∃ (x3_1:ByteArray) (x4_1:Int),v3 = .string x3_1∧v4 = .int .i64 x4_1∧Aside0 (spec_VarsOfProblem.l0 kq x3_1 x4_1 l0_0=some r)∧Aside0 (kq≤k)∧Aside0 (w'.heap[gb39001]? = some (.cells #[(.slice A0_0 l0_0.length c0_0)] 26 (0,0)))∧Aside0 (Below w.heap.size w w')))
 case atStart=>exact ⟨((⟨#[]⟩:ByteArray)),(0),za8,za8,H',⟨Nat.le_refl _⟩,⟨za0 BK39001.out⟩,⟨za4⟩⟩
 case round =>
  clear H'
  obtain ⟨x3_1,x4_1,rfl,rfl,HA,HK1,BK39001,HB⟩:=hrel
  cases gk with
  | zero=>exact absurd HA.out (by simp [spec_VarsOfProblem.l0])
  | succ k1 =>
   have H:=HA.out
   clear HA
   simp only [spec_VarsOfProblem.l0] at H
   by_cases c3:x4_1 < (l0_0.length:Int)
   rw [if_pos c3] at H
   have c3b0:decide (x4_1 < (l0_0.length:Int))=true:=decide_eq_true c3
   clear c3
   replace H:=zo H
   obtain ⟨t39002,A40,H⟩:=H
   replace H:(if t39002=true then (if 0≤x4_1 then ((spec_VarsOfConstraint.f k1 ((rd_T67 l0_0 x4_1).f0) ((rd_T67 l0_0 x4_1).f1) ((rd_T67 l0_0 x4_1).f2) ((rd_T67 l0_0 x4_1).f3.f0) ((rd_T67 l0_0 x4_1).f3.f1) ((rd_T67 l0_0 x4_1).f3.f2) ((rd_T67 l0_0 x4_1).f4) ((rd_T67 l0_0 x4_1).f5)).bind fun t39004=>(if x3_1.size+t39004.size≤9223372036854775807 then (spec_VarsOfProblem.l0 k1 (x3_1 ++ t39004) (wrap64 (x4_1+1)) l0_0) else (none))) else (none)) else ((spec_VarsOf.f k1 x3_1).bind fun t39005=>(some t39005)))=some r:=H
   have A4:=zk A40
   clear A40
   by_cases c5:t39002=true
   subst c5
   have H1:(if 0≤x4_1 then ((spec_VarsOfConstraint.f k1 ((rd_T67 l0_0 x4_1).f0) ((rd_T67 l0_0 x4_1).f1) ((rd_T67 l0_0 x4_1).f2) ((rd_T67 l0_0 x4_1).f3.f0) ((rd_T67 l0_0 x4_1).f3.f1) ((rd_T67 l0_0 x4_1).f3.f2) ((rd_T67 l0_0 x4_1).f4) ((rd_T67 l0_0 x4_1).f5)).bind fun t39004=>(if x3_1.size+t39004.size≤9223372036854775807 then (spec_VarsOfProblem.l0 k1 (x3_1 ++ t39004) (wrap64 (x4_1+1)) l0_0) else (none))) else (none))=some r:=by rw [if_pos rfl] at H;exact H
   clear H
   have H:=H1
   clear H1
   by_cases c6:0≤x4_1
   rw [if_pos c6] at H
   have c6b0:decide (0≤x4_1)=true:=decide_eq_true c6
   clear c6
   replace H:=zo H
   obtain ⟨t39004,A70,H⟩:=H
   replace H:(if x3_1.size+t39004.size≤9223372036854775807 then (spec_VarsOfProblem.l0 k1 (x3_1 ++ t39004) (wrap64 (x4_1+1)) l0_0) else (none))=some r:=H
   have A7:=zk A70
   clear A70
   by_cases c8:x3_1.size+t39004.size≤9223372036854775807
   rw [if_pos c8] at H
   have c8z:=c8
   try simp at c8z
   try replace c8z:=eq_false (Nat.not_lt.2 c8z)
   have c8b0:=eq_true c8
   have c8b1:decide (x3_1.size+t39004.size≤9223372036854775807)=true:=decide_eq_true c8
   try have c8b2:(9223372036854775807 < x3_1.size+t39004.size)=False:=eq_false (Nat.not_lt.2 c8)
   have H':=zk H
   clear H
   have fin0_:=zk trivial
   rotate_left
   · rw [if_neg c8] at H
     exact absurd H (by simp)
   · rw [if_neg c6] at H
     exact absurd H (by simp)
   · replace c5:=Bool.eq_false_iff.mpr c5
     subst c5
     have H1:((spec_VarsOf.f k1 x3_1).bind fun t39005=>(some t39005))=some r:=by rw [if_neg (show ¬ (false=true) by decide)] at H;exact H
     clear H
     have H:=H1
     clear H1
     replace H:=zo H
     obtain ⟨t39005,A130,H⟩:=H
     replace H:(some t39005)=some r:=H
     have A13:=zk A130
     clear A130
     obtain rfl:=zi H
     obtain ⟨hcz14_0,hfz14_0⟩:=blk1 BK39001.out
     go_wp2_with (first|(go_at_call 35;(with_reducible refine (spec_IsValidProblem.calls k1 _ _ l0_0 _ _ ?side1 ?side2 A4.out).mono ?_);(case side1=>repeat (first|exact (Kd.C_below HR0_0.out HB.out)|(with_reducible refine Kd.C_alloc ?_ _)|(with_reducible refine Kd.C_drewN ?_ _)|(with_reducible refine Kd.C_drew ?_)));(case side2=>exact HC0_0.out);rintro e w15 ⟨rfl,hb⟩;have n0_:=zk (zb BK39001.out hb);have n1_:=zk (below_step za4 hb);clear BK39001;clear HB;have BK39001:=n0_;have HB:=n1_;clear n0_ n1_;(try clear hb);(try clear hb2);(try clear hk);(try clear hi))|((with_reducible refine gate_callee (f:=73) rfl ?_);refine goesL_ (some 25) rfl rfl Tryz.func73 (by kernel_rfl) rfl #[.string x3_1] rfl za5 ?_;(with_reducible refine (spec_VarsOf.calls k1 x3_1 t39005 _ A13.out).mono ?_);rintro e w' ⟨rfl,⟨nd,rfl⟩⟩;refine ⟨_,rfl,?_⟩))
     go_ret
     exact ⟨za7,za4⟩
   rw [if_neg c3] at H
   have c3b0:decide (x4_1 < (l0_0.length:Int))=false:=decide_eq_false c3
   clear c3
   replace H:=zo H
   obtain ⟨t39006,A160,H⟩:=H
   replace H:(some t39006)=some r:=H
   have A16:=zk A160
   clear A160
   obtain rfl:=zi H
   have fin1_:=zk trivial
   rotate_left
   all_goals
    obtain ⟨hcz9_0,hfz9_0⟩:=blk1 BK39001.out
    go_wp2_with (first|(go_at_call 35;(with_reducible refine (spec_IsValidProblem.calls k1 _ _ l0_0 _ _ ?side1 ?side2 A4.out).mono ?_);(case side1=>repeat (first|exact (Kd.C_below HR0_0.out HB.out)|(with_reducible refine Kd.C_alloc ?_ _)|(with_reducible refine Kd.C_drewN ?_ _)|(with_reducible refine Kd.C_drew ?_)));(case side2=>exact HC0_0.out);rintro e w10 ⟨rfl,hb⟩;have n0_:=zk (zb BK39001.out hb);have n1_:=zk (below_step za4 hb);clear BK39001;clear HB;have BK39001:=n0_;have HB:=n1_;clear n0_ n1_;(try clear hb);(try clear hb2);(try clear hk);(try clear hi);obtain ⟨hcz11_0,hfz11_0⟩:=blk1 BK39001.out;have p39003:0≤(x4_1:Int):=of_decide_eq_true za9;have q39003:x4_1 < (l0_0.length:Int):=of_decide_eq_true za9;obtain ⟨ad39003,A39003_5,c39003_5,A39003_6,c39003_6,e39003,hx39003_0,hx39003_1,hx39003_2,hx39003_3,hx39003_4,hx39003_5,hx39003_6,hx39003_7,hl39003_5,hi39003_5,hl39003_6,hi39003_6⟩:=at_T67 HR0_0.out x4_1 p39003 q39003;cases e39003;replace hx39003_0:=zx HB.out hx39003_0;replace hx39003_1:=zx HB.out hx39003_1;replace hx39003_2:=zx HB.out hx39003_2;replace hx39003_3:=zx HB.out hx39003_3;replace hx39003_4:=zx HB.out hx39003_4;replace hx39003_5:=zx HB.out hx39003_5;replace hx39003_6:=zx HB.out hx39003_6;replace hx39003_7:=zx HB.out hx39003_7;have HR39003_5:=zk hi39003_5;have HC39003_5:=zk hl39003_5;clear hi39003_5 hl39003_5;have HR39003_6:=zk hi39003_6;have HC39003_6:=zk hl39003_6;clear hi39003_6 hl39003_6;replace p39003:=eq_true p39003;replace q39003:=eq_true q39003)|((with_reducible refine gate_callee (f:=72) rfl ?_);refine goesL_ (some 22) rfl rfl Tryz.func72 (by kernel_rfl) rfl #[.agg #[.int .i64 ((rd_T67 l0_0 x4_1).f0),.string ((rd_T67 l0_0 x4_1).f1),.string ((rd_T67 l0_0 x4_1).f2),.int .i64 ((rd_T67 l0_0 x4_1).f3.f0),.string ((rd_T67 l0_0 x4_1).f3.f1),.slice A39003_5 ((rd_T67 l0_0 x4_1).f3.f2).length c39003_5,.slice A39003_6 ((rd_T67 l0_0 x4_1).f4).length c39003_6,.int .i64 ((rd_T67 l0_0 x4_1).f5)]] rfl za5 ?_;(with_reducible refine (spec_VarsOfConstraint.calls k1 ((rd_T67 l0_0 x4_1).f0) ((rd_T67 l0_0 x4_1).f1) ((rd_T67 l0_0 x4_1).f2) ((rd_T67 l0_0 x4_1).f3.f0) ((rd_T67 l0_0 x4_1).f3.f1) _ _ ((rd_T67 l0_0 x4_1).f3.f2) _ _ ((rd_T67 l0_0 x4_1).f4) ((rd_T67 l0_0 x4_1).f5) t39004 _ ?side1 ?side2 ?side3 ?side4 A7.out).mono ?_);(case side1=>repeat (first|exact (Kd.C_below HR39003_5.out HB.out)|(with_reducible refine Kd.C_alloc ?_ _)|(with_reducible refine Kd.C_drewN ?_ _)|(with_reducible refine Kd.C_drew ?_)));(case side2=>exact HC39003_5.out);(case side3=>repeat (first|exact (Kd.C_below HR39003_6.out HB.out)|(with_reducible refine Kd.C_alloc ?_ _)|(with_reducible refine Kd.C_drewN ?_ _)|(with_reducible refine Kd.C_drew ?_)));(case side4=>exact HC39003_6.out);rintro e w12 ⟨rfl,hb⟩;refine ⟨_,rfl,?_⟩;have n0_:=zk (zb BK39001.out hb);have n1_:=zk (below_step za4 hb);clear BK39001;clear HB;have BK39001:=n0_;have HB:=n1_;clear n0_ n1_;(try clear hb);(try clear hb2);(try clear hk);(try clear hi))|((with_reducible refine gate_callee (f:=73) rfl ?_);refine goesL_ (some 25) rfl rfl Tryz.func73 (by kernel_rfl) rfl #[.string x3_1] rfl za5 ?_;(with_reducible refine (spec_VarsOf.calls k1 x3_1 t39006 _ A16.out).mono ?_);rintro e w' ⟨rfl,⟨nd,rfl⟩⟩;refine ⟨_,rfl,?_⟩))
    first
    | (
      clear fin0_
      go_roundg k1
      case measure=>have:=HK1.out;omega
      case rel=>exact ⟨(x3_1 ++ t39004),(wrap64 (x4_1+1)),za8,za8,H',⟨za17⟩,⟨za0 BK39001.out⟩,⟨za4⟩⟩)
    | (
      clear fin1_
      go_ret
      exact ⟨za7,za4⟩)
end Go.Proofs.YtffjfdoghofkdaaGreat.A
