/- FnMonoid: what its proof needs, put together by this session's program wip/merge.py out of the texts that wip/xp.py printed and of this session's own. -/
import Derived.Test.YthkbgoohiinmbaaQFnMonoid4
import Derived.Test.YthkbgoohiinmbaaProg
import Derived.Shelf.Abstract
import Derived.Deep.LoopGhost
import Derived.Laws.EntriesVeiled
import Derived.Maps.Own
import Derived.Maps.OwnOps
import Derived.Maps.OwnSet
import Derived.Deep.QuietTactic
import Derived.BigQuiet
import Derived.Below
set_option linter.unusedVariables false
set_option linter.unusedSimpArgs false
set_option linter.unusedSectionVars false
set_option maxHeartbeats 8000000
set_option maxRecDepth 100000
namespace Go.Proofs.Ythkbgoohiinmbaa.Ext
open Go.RowKit YthkbgoohiinmbaaW.PrintWords YthkbgoohiinmbaaW.PrintLast Ythkbgoohiinmbaa.A
def idxN (p:Nat→Bool) (n:Nat):Int:=match (List.range n).find? p with|some i=>(i:Int)|none => -1
def anyN (p:Nat→Bool) (n:Nat):Bool:=(List.range n).any p
theorem idxN_miss (p:Nat→Bool) (n:Nat) (h:∀ j,j < n→p j=false):idxN p n = -1:=by
 unfold idxN
 rw [List.find?_eq_none.2 (fun x hx=>by rw [h x (List.mem_range.1 hx)];simp)]
theorem idxN_hit (p:Nat→Bool) (n i:Nat) (hi:i < n) (h:∀ j,j < i→p j=false) (hp:p i=true):idxN p n=i:=by
 unfold idxN
 have e:(List.range n).find? p=some i:=by
  rw [List.find?_range_eq_some]
  exact ⟨hp,List.mem_range.2 hi,fun j hj=>by simp [h j hj]⟩
 rw [e]
theorem anyN_idx (p:Nat→Bool) (n:Nat):decide (0≤idxN p n)=anyN p n:=by
 unfold idxN anyN
 cases h:(List.range n).find? p with
 | none =>
  have:(List.range n).any p=false:=by
   rw [List.any_eq_false]
   exact List.find?_eq_none.1 h
  simp [this]
 | some i =>
  have:(List.range n).any p=true:=List.any_eq_true.2 ⟨i,List.mem_of_find?_eq_some h,List.find?_some h⟩
  simp [this]
set_option maxHeartbeats 2000000 in
theorem idx_ints (p:Nat→Bool) (g:Nat) (lb:Array Value) (eg:∀ args w,(callFunc g args).run Try.prog w = .ok (.enter g args) w) (A:Option Addr) (n c:Nat) (w:World) (hn:n≤9223372036854775807)
  (hcl:∀ i,i < n→∃ ad v,A=some ad∧w.cell? (ad.add i)=some v∧∀ W,Below w.heap.size w W→Calls Try.prog g (#[v] ++ lb) W fun e W'=>e = .returned (.bool (p i))∧Below W.heap.size W W') :
  Calls Try.prog 64 #[.slice A n c,.func (.func g) #[] lb] w fun e w'=>e = .returned (.int .i64 (idxN p n))∧Below w.heap.size w w':=by
 have HN:=zk hn
 have HC:=zk hcl
 clear hcl
 go_enter Try.func64,Try.ntmps64
 go_wp2
 go_loopg [8] n (fun gk v wr=>∃ (x:Int),v = .int .i64 x∧Aside0 (0≤x)∧Aside0 (x≤n)∧Aside0 ((n:Int) - x≤gk)∧Aside0 (∀ j:Nat,(j:Int) < x→p j=false)∧Aside0 (Below w.heap.size w wr))
 case atStart=>exact ⟨0,rfl,⟨by omega⟩,⟨by omega⟩,⟨by omega⟩,⟨fun j hj=>by omega⟩,⟨za65⟩⟩
 case round =>
  obtain ⟨x,rfl,H0,H1,HG,HT,HB⟩:=hrel
  by_cases hlt:x < (n:Int)
  ·have c4b0:decide (x < (n:Int))=true:=decide_eq_true hlt
   obtain ⟨ad,v,rfl,hcell,hcall⟩:=HC.out x.toNat (by have:=H0.out;omega)
   have hc1:=hcall wr HB.out
   have hx0:=H0.out
   replace hcell:=pw_cell_below HB.out hcell
   have HL:=zk hlt
   have p4:=eq_true hx0
   have q4:=eq_true hlt
   cases hp:p x.toNat with
   | true =>
    rw [hp] at hc1
    have HP:=zk hp
    have HCl:=zk hc1
    clear hp hc1 hcall HC hlt hx0
    go_wp2_with (go_at_fn g;refine HCl.out.mono ?_;rintro e w2 ⟨rfl,hb2⟩;have n0_:=zk (below_step HB.out hb2);clear HB hb2;have HB:=n0_;clear n0_)
    go_ret
    exact ⟨congrArg (fun i=>Ending.returned (Value.int .i64 i)) (by rw [idxN_hit p n x.toNat (by have:=H0.out;have:=HL.out;omega) (fun j hj=>HT.out j (by omega)) HP.out];have:=H0.out;omega),HB.out⟩
   | false =>
    rw [hp] at hc1
    have HP:=zk hp
    have HCl:=zk hc1
    clear hp hc1 hcall HC hlt hx0
    go_wp2_with (go_at_fn g;refine HCl.out.mono ?_;rintro e w2 ⟨rfl,hb2⟩;have n0_:=zk (below_step HB.out hb2);clear HB hb2;have HB:=n0_;clear n0_)
    have hw:wrap64 (x+1)=x+1:=by have:=HL.out;have:=H0.out;have:=HN.out;unfold wrap64;omega
    go_roundg (gk - 1)
    case measure=>have:=HG.out;have:=HL.out;omega
    case rel =>
     refine ⟨wrap64 (x+1),za13,⟨by rw [hw];have:=H0.out;omega⟩,⟨by rw [hw];have:=HL.out;omega⟩,⟨by rw [hw];have:=HG.out;omega⟩,⟨fun j hj=>?_⟩,HB⟩
     rw [hw] at hj
     by_cases e:(j:Int) < x
     ·exact HT.out j e
     ·have e2:j=x.toNat:=by have:=H0.out;omega
      rw [e2];exact HP.out
  ·have c4b0:decide (x < (n:Int))=false:=decide_eq_false hlt
   have hx:x=n:=by have:=H1.out;omega
   have HE:=zk (idxN_miss p n (fun j hj=>HT.out j (by omega)))
   clear HC hlt hx
   go_wp2
   go_ret
   exact ⟨congrArg (fun i=>Ending.returned (Value.int .i64 i)) HE.out.symm,HB.out⟩
set_option maxHeartbeats 1000000 in
theorem any_ints (p:Nat→Bool) (g:Nat) (lb:Array Value) (eg:∀ args w,(callFunc g args).run Try.prog w = .ok (.enter g args) w) (A:Option Addr) (n c:Nat) (r:Bool) (w:World) (hn:n≤9223372036854775807) (hr:anyN p n=r)
  (hcl:∀ i,i < n→∃ ad v,A=some ad∧w.cell? (ad.add i)=some v∧∀ W,Below w.heap.size w W→Calls Try.prog g (#[v] ++ lb) W fun e W'=>e = .returned (.bool (p i))∧Below W.heap.size W W') :
  Calls Try.prog 49 #[.slice A n c,.func (.func g) #[] lb] w fun e w'=>e = .returned (.bool r)∧Below w.heap.size w w':=by
 have HN:=zk hn
 have HC:=zk hcl
 have HR:=zk ((anyN_idx p n).trans hr)
 clear hcl hr
 go_enter Try.func49,Try.ntmps49
 go_wp2_with (go_at_call 64;refine (idx_ints p g lb eg _ _ _ _ HN.out HC.out).mono ?_;generalize idxN p n=m at HR;rintro e w' ⟨rfl,hb⟩)
 go_ret
 exact ⟨congrArg (fun b=>Ending.returned (Value.bool b)) HR.out,hb⟩
set_option maxHeartbeats 2000000 in
theorem idx_rows (p:Nat→Bool) (g:Nat) (lb:Array Value) (eg:∀ args w,(callFunc g args).run Try.prog w = .ok (.enter g args) w) (A:Option Addr) (n c:Nat) (w:World) (hn:n≤9223372036854775807)
  (hcl:∀ i,i < n→∃ ad v,A=some ad∧w.cell? (ad.add i)=some v∧∀ W,Below w.heap.size w W→Calls Try.prog g (#[v] ++ lb) W fun e W'=>e = .returned (.bool (p i))∧Below W.heap.size W W') :
  Calls Try.prog 23 #[.slice A n c,.func (.func g) #[] lb] w fun e w'=>e = .returned (.int .i64 (idxN p n))∧Below w.heap.size w w':=by
 have HN:=zk hn
 have HC:=zk hcl
 clear hcl
 go_enter Try.func23,Try.ntmps23
 go_wp2
 go_loopg [8] n (fun gk v wr=>∃ (x:Int),v = .int .i64 x∧Aside0 (0≤x)∧Aside0 (x≤n)∧Aside0 ((n:Int) - x≤gk)∧Aside0 (∀ j:Nat,(j:Int) < x→p j=false)∧Aside0 (Below w.heap.size w wr))
 case atStart=>exact ⟨0,rfl,⟨by omega⟩,⟨by omega⟩,⟨by omega⟩,⟨fun j hj=>by omega⟩,⟨za65⟩⟩
 case round =>
  obtain ⟨x,rfl,H0,H1,HG,HT,HB⟩:=hrel
  by_cases hlt:x < (n:Int)
  ·have c4b0:decide (x < (n:Int))=true:=decide_eq_true hlt
   obtain ⟨ad,v,rfl,hcell,hcall⟩:=HC.out x.toNat (by have:=H0.out;omega)
   have hc1:=hcall wr HB.out
   have hx0:=H0.out
   replace hcell:=pw_cell_below HB.out hcell
   have HL:=zk hlt
   have p4:=eq_true hx0
   have q4:=eq_true hlt
   cases hp:p x.toNat with
   | true =>
    rw [hp] at hc1
    have HP:=zk hp
    have HCl:=zk hc1
    clear hp hc1 hcall HC hlt hx0
    go_wp2_with (go_at_fn g;refine HCl.out.mono ?_;rintro e w2 ⟨rfl,hb2⟩;have n0_:=zk (below_step HB.out hb2);clear HB hb2;have HB:=n0_;clear n0_)
    go_ret
    exact ⟨congrArg (fun i=>Ending.returned (Value.int .i64 i)) (by rw [idxN_hit p n x.toNat (by have:=H0.out;have:=HL.out;omega) (fun j hj=>HT.out j (by omega)) HP.out];have:=H0.out;omega),HB.out⟩
   | false =>
    rw [hp] at hc1
    have HP:=zk hp
    have HCl:=zk hc1
    clear hp hc1 hcall HC hlt hx0
    go_wp2_with (go_at_fn g;refine HCl.out.mono ?_;rintro e w2 ⟨rfl,hb2⟩;have n0_:=zk (below_step HB.out hb2);clear HB hb2;have HB:=n0_;clear n0_)
    have hw:wrap64 (x+1)=x+1:=by have:=HL.out;have:=H0.out;have:=HN.out;unfold wrap64;omega
    go_roundg (gk - 1)
    case measure=>have:=HG.out;have:=HL.out;omega
    case rel =>
     refine ⟨wrap64 (x+1),za13,⟨by rw [hw];have:=H0.out;omega⟩,⟨by rw [hw];have:=HL.out;omega⟩,⟨by rw [hw];have:=HG.out;omega⟩,⟨fun j hj=>?_⟩,HB⟩
     rw [hw] at hj
     by_cases e:(j:Int) < x
     ·exact HT.out j e
     ·have e2:j=x.toNat:=by have:=H0.out;omega
      rw [e2];exact HP.out
  ·have c4b0:decide (x < (n:Int))=false:=decide_eq_false hlt
   have hx:x=n:=by have:=H1.out;omega
   have HE:=zk (idxN_miss p n (fun j hj=>HT.out j (by omega)))
   clear HC hlt hx
   go_wp2
   go_ret
   exact ⟨congrArg (fun i=>Ending.returned (Value.int .i64 i)) HE.out.symm,HB.out⟩
set_option maxHeartbeats 1000000 in
theorem any_rows (p:Nat→Bool) (g:Nat) (lb:Array Value) (eg:∀ args w,(callFunc g args).run Try.prog w = .ok (.enter g args) w) (A:Option Addr) (n c:Nat) (r:Bool) (w:World) (hn:n≤9223372036854775807) (hr:anyN p n=r)
  (hcl:∀ i,i < n→∃ ad v,A=some ad∧w.cell? (ad.add i)=some v∧∀ W,Below w.heap.size w W→Calls Try.prog g (#[v] ++ lb) W fun e W'=>e = .returned (.bool (p i))∧Below W.heap.size W W') :
  Calls Try.prog 47 #[.slice A n c,.func (.func g) #[] lb] w fun e w'=>e = .returned (.bool r)∧Below w.heap.size w w':=by
 have HN:=zk hn
 have HC:=zk hcl
 have HR:=zk ((anyN_idx p n).trans hr)
 clear hcl hr
 go_enter Try.func47,Try.ntmps47
 go_wp2_with (go_at_call 23;refine (idx_rows p g lb eg _ _ _ _ HN.out HC.out).mono ?_;generalize idxN p n=m at HR;rintro e w' ⟨rfl,hb⟩)
 go_ret
 exact ⟨congrArg (fun b=>Ending.returned (Value.bool b)) HR.out,hb⟩
end Go.Proofs.Ythkbgoohiinmbaa.Ext
namespace Go.Proofs.Ythkbgoohiinmbaa.Ext
open Go.RowKit YthkbgoohiinmbaaW.PrintWords YthkbgoohiinmbaaW.PrintLast
-- EXT loop.example/g00582/impl.within
def impl_within.f (a0:Int) (a1:Int) (a2:Int):Option (Bool):=if a0 ≥ a1 then (some (decide (a0≤a2))) else (some false)
theorem impl_within.calls (a0:Int) (a1:Int) (a2:Int) (r:Bool) (w:World) (h:impl_within.f a0 a1 a2=some r) :
  Calls Try.prog 46 #[.int .i64 a0,.int .i64 a1,.int .i64 a2] w fun e w'=>e = .returned (.bool r)∧Drawn0 w w':=by
 have H:(if a0 ≥ a1 then (some (decide (a0≤a2))) else (some false))=some r:=h
 clear h
 by_cases c4:a0 ≥ a1
 ·rw [if_pos c4] at H
  have c4b0:decide (a1≤a0)=true:=decide_eq_true c4
  clear c4
  obtain rfl:=zi H
  go_enter Try.func46,Try.ntmps46
  go_wp2
  go_ret
  exact ⟨za13,za25⟩
 ·rw [if_neg c4] at H
  have c4b0:decide (a1≤a0)=false:=decide_eq_false c4
  clear c4
  obtain rfl:=zi H
  go_enter Try.func46,Try.ntmps46
  go_wp2
  go_ret
  exact ⟨za13,za25⟩
end Go.Proofs.Ythkbgoohiinmbaa.Ext
namespace Go.Proofs.Ythkbgoohiinmbaa.Ext
open Go.RowKit YthkbgoohiinmbaaW.PrintWords YthkbgoohiinmbaaW.PrintLast Ythkbgoohiinmbaa.A
def inR (n:Nat) (k:Int):Bool:=decide (0≤k) && decide (k≤(n:Int) - 1)
def rowOk (n:Nat) (l:List Int):Bool:=decide (l.length=n) && l.all (inR n)
def wellB (n:Nat) (L:List Int) (P:List (List Int)):Bool:=(!decide (n=0) && decide (L.length=3)) && (L.all (inR n) && (decide (P.length=n) && P.all (rowOk n)))
-- EXT loop.example/g00582/impl.wellFormed making
def impl_wellFormed.f (l0_0:List (List Int)) (l0_1:List Int) (l0_2:List (List Int)):Option Bool:=some (wellB l0_0.length l0_1 l0_2)
theorem within_eq (k:Int) (n:Nat):impl_within.f k 0 ((n:Int) - 1)=some (inR n k):=by
 unfold impl_within.f inR
 by_cases h:k ≥ 0
 ·rw [if_pos h];simp [show 0≤k from h]
 ·rw [if_neg h];simp [show ¬ 0≤k from h]
set_option maxHeartbeats 1000000 in
theorem well_bad (k:Int) (n:Nat) (g:Nat) (r:Bool) (W:World) (hn:n≤9223372036854775807) (hr:(!inR n k)=r) (hc:W.cell? ⟨g,0,none⟩=some (.int .i64 n)) :
  Calls Try.prog 55 #[.int .i64 k,.pointer (some ⟨g,0,none⟩)] W fun e W'=>e = .returned (.bool r)∧Below W.heap.size W W':=by
 obtain rfl:=hr
 have hw:(n:Int) - 1=wrap64 ((n:Int) - 1):=by unfold wrap64;omega
 have hi:=zk (within_eq k n)
 generalize inR n k=b at hi ⊢
 have HN:=zk hn
 clear hw
 go_enter Try.func55,Try.ntmps55
 go_wp2_with (go_at_call 46;refine (impl_within.calls k 0 ((n:Int) - 1) b _ hi.out).mono ?_;rintro e w' ⟨rfl,⟨nd,rfl⟩⟩)
 go_ret
 exact ⟨rfl,(Drawn0.step (Drawn0.refl _) _).below⟩
theorem anyN_ints (p:Int→Bool) (l:List Int):anyN (fun i=>p (rd l (i:Int))) l.length=l.any p:=by
 unfold anyN
 rw [Bool.eq_iff_iff,List.any_eq_true,List.any_eq_true]
 constructor
 ·rintro ⟨i,hi,hp⟩
  have hi:=List.mem_range.1 hi
  refine ⟨l[i],List.getElem_mem hi,?_⟩
  simpa [rd,hi] using hp
 ·rintro ⟨x,hx,hp⟩
  obtain ⟨i,hi,rfl⟩:=List.mem_iff_getElem.1 hx
  exact ⟨i,List.mem_range.2 hi,by simpa [rd,hi] using hp⟩
theorem anyN_rows (p:List Int→Bool) (l:List (List Int)):anyN (fun i=>p (l.getD i [])) l.length=l.any p:=by
 unfold anyN
 rw [Bool.eq_iff_iff,List.any_eq_true,List.any_eq_true]
 constructor
 ·rintro ⟨i,hi,hp⟩
  have hi:=List.mem_range.1 hi
  refine ⟨l[i],List.getElem_mem hi,?_⟩
  simpa [hi] using hp
 ·rintro ⟨x,hx,hp⟩
  obtain ⟨i,hi,rfl⟩:=List.mem_iff_getElem.1 hx
  exact ⟨i,List.mem_range.2 hi,by simpa [hi] using hp⟩
theorem not_all (p:Int→Bool) (l:List Int):(!l.all p)=l.any fun x => !p x:=by simp [List.any_eq_not_all_not]
theorem any_bad (A:Option Addr) (l:List Int) (c n g:Nat) (r:Bool) (w:World) (hl:Kd.C (Kd.int .i64) w A l.length l) (hn:n≤9223372036854775807) (hg:g < w.heap.size) (hc:w.cell? ⟨g,0,none⟩=some (.int .i64 n)) (hr:(!l.all (inR n))=r) :
  Calls Try.prog 49 #[.slice A l.length c,.func (.func 55) #[] #[.pointer (some ⟨g,0,none⟩)]] w fun e w'=>e = .returned (.bool r)∧Below w.heap.size w w':=by
 refine any_ints (fun i => !inR n (rd l (i:Int))) 55 _ (enters_of Try.func55 (by kernel_rfl) rfl) A l.length c r w hl.2.1 ?_ ?_
 ·rw [anyN_ints (fun k => !inR n k) l,← not_all];exact hr
 ·intro i hi
  obtain ⟨ad,e,hx⟩:=Kd.at_int hl (i:Int) (by omega) (by omega)
  refine ⟨ad,_,e,by simpa using hx,fun W hb=>?_⟩
  exact well_bad _ n g _ W hn rfl ((hb.cell (p:=⟨g,0,none⟩) hg).trans hc)
set_option maxHeartbeats 2000000 in
theorem well_row (A:Option Addr) (l:List Int) (c n g q:Nat) (r:Bool) (W:World) (hl:Kd.C (Kd.int .i64) W A l.length l) (hn:n≤9223372036854775807) (hg:g < W.heap.size) (hc:W.cell? ⟨g,0,none⟩=some (.int .i64 n))
  (hq:W.cell? ⟨q,0,none⟩=some (.func (.func 55) #[] #[.pointer (some ⟨g,0,none⟩)])) (hr:(!rowOk n l)=r) :
  Calls Try.prog 56 #[.slice A l.length c,.pointer (some ⟨g,0,none⟩),.pointer (some ⟨q,0,none⟩)] W fun e W'=>e = .returned (.bool r)∧Below W.heap.size W W':=by
 have HL:=zk hl
 have HN:=zk hn
 have HG:=zk hg
 have HC:=zk hc
 clear hl hg
 by_cases h:l.length=n
 ·have c3b1:((l.length:Int) != (n:Int))=false:=by rw [h];exact bne_self_eq_false _
  have c3b2:(l.length != n)=false:=by rw [h];exact bne_self_eq_false _
  have HR:=zk (show (!l.all (inR n))=r by rw [← hr];simp [rowOk,h])
  clear h hr
  go_enter Try.func56,Try.ntmps56
  go_wp2_with (go_at_call 49;refine (any_bad _ l _ n g r _ HL.out HN.out HG.out HC.out HR.out).mono ?_;rintro e w' ⟨rfl,hb⟩)
  go_ret
  exact ⟨rfl,hb⟩
 ·have c3b1:((l.length:Int) != (n:Int))=true:=bne_iff_ne.mpr (by omega)
  have c3b2:(l.length != n)=true:=bne_iff_ne.mpr h
  have HR:=zk (show true=r by rw [← hr];simp [rowOk,h])
  clear h hr
  go_enter Try.func56,Try.ntmps56
  go_wp2
  go_ret
  exact ⟨congrArg (fun b=>Ending.returned (Value.bool b)) HR.out,Below.refl _ _⟩
theorem not_allP {α:Type} (p:α→Bool) (l:List α):(!l.all p)=l.any fun x => !p x:=by simp [List.any_eq_not_all_not]
theorem any_row (A:Option Addr) (l:List (List Int)) (c n g q:Nat) (r:Bool) (w:World) (hl:Kd.C (Kd.slice 3 (Kd.int .i64)) w A l.length l) (hn:n≤9223372036854775807) (hc:w.cell? ⟨g,0,none⟩=some (.int .i64 n))
  (hq:w.cell? ⟨q,0,none⟩=some (.func (.func 55) #[] #[.pointer (some ⟨g,0,none⟩)])) (hr:(!l.all (rowOk n))=r) :
  Calls Try.prog 47 #[.slice A l.length c,.func (.func 56) #[] #[.pointer (some ⟨g,0,none⟩),.pointer (some ⟨q,0,none⟩)]] w fun e w'=>e = .returned (.bool r)∧Below w.heap.size w w':=by
 refine any_rows (fun i => !rowOk n (l.getD i [])) 56 _ (enters_of Try.func56 (by kernel_rfl) rfl) A l.length c r w hl.2.1 ?_ ?_
 ·rw [anyN_rows (fun x => !rowOk n x) l,← not_allP];exact hr
 ·intro i hi
  obtain ⟨ad,A',c',row,e,hx,hle,hC,he⟩:=at_rows hl (i:Int) (by omega) (by omega)
  have he:=he.out
  rw [Int.toNat_natCast] at he hx
  subst he
  refine ⟨ad,_,e,hx,fun W hb=>?_⟩
  exact well_row A' _ c' n g q _ W (Kd.C_below hC hb) hn (World.block_lt_of_cell? W _ (pw_cell_below hb hc)) (pw_cell_below hb hc) (pw_cell_below hb hq) rfl
set_option maxHeartbeats 4000000 in
theorem impl_wellFormed.calls (A0_0:Option Addr) (c0_0:Nat) (l0_0:List (List Int)) (A0_1:Option Addr) (c0_1:Nat) (l0_1:List Int) (A0_2:Option Addr) (c0_2:Nat) (l0_2:List (List Int)) (r:Bool) (w:World) (hr0_0:Kd.C (Kd.slice 3 (Kd.int .i64)) w A0_0 l0_0.length l0_0) (hc0_0:l0_0.length≤c0_0) (hr0_1:Kd.C (Kd.int .i64) w A0_1 l0_1.length l0_1) (hc0_1:l0_1.length≤c0_1) (hr0_2:Kd.C (Kd.slice 3 (Kd.int .i64)) w A0_2 l0_2.length l0_2) (hc0_2:l0_2.length≤c0_2) (h:impl_wellFormed.f l0_0 l0_1 l0_2=some r) :
  Calls Try.prog 33 #[.agg #[.slice A0_0 l0_0.length c0_0,.slice A0_1 l0_1.length c0_1,.slice A0_2 l0_2.length c0_2]] w fun e w'=>e = .returned (.bool r)∧Below w.heap.size w w':=by
 obtain rfl:=zi h
 have HA:=zk hr0_0
 have HB:=zk hr0_1
 have HC:=zk hr0_2
 clear hr0_0 hr0_1 hr0_2 hc0_0 hc0_1 hc0_2 h
 go_enter Try.func33,Try.ntmps33
 have HN:=zk HA.out.2.1
 have h2:=zk HA
 by_cases c1:l0_0.length=0
 ·have HE:=zk (show wellB l0_0.length l0_1 l0_2=false by simp [wellB,c1])
  have d1:((l0_0.length:Int) == 0)=true:=by rw [c1];rfl
  clear c1
  go_wp2
  go_ret
  exact ⟨congrArg (fun b=>Ending.returned (Value.bool b)) HE.out.symm,za58⟩
 ·have d1:((l0_0.length:Int) == 0)=false:=beq_eq_false_iff_ne.mpr (by omega)
  have C1:=zk c1
  clear c1
  by_cases c2:l0_1.length=3
  ·have d2:((l0_1.length:Int) != 3)=false:=by rw [c2];rfl
   have C2:=zk c2
   clear c2
   cases c3:l0_1.all (inR l0_0.length) with
   | false =>
    have C3:=zk (show (!l0_1.all (inR l0_0.length))=true by rw [c3];rfl)
    have HE:=zk (show wellB l0_0.length l0_1 l0_2=false by simp [wellB,c3])
    clear c3
    go_wp2_with (go_at_call 49;refine (any_bad _ l0_1 _ l0_0.length (w.heap.size+1) true _ ?ha HN.out ?hb ?hc C3.out).mono ?_;(case ha=>repeat (first|(with_reducible exact HB.out)|(with_reducible refine Kd.C_alloc ?_ _)));(case hb=>go_simp);(case hc=>go_simp);rintro e w2 ⟨rfl,hb⟩;have HW:=zk hb;clear hb)
    go_ret
    exact ⟨congrArg (fun b=>Ending.returned (Value.bool b)) HE.out.symm,below_step za58 HW.out⟩
   | true =>
    have C3:=zk (show (!l0_1.all (inR l0_0.length))=false by rw [c3];rfl)
    by_cases c4:l0_2.length=l0_0.length
    ·have d4:((l0_2.length:Int) != (l0_0.length:Int))=false:=by rw [c4];exact bne_self_eq_false _
     have d5:(l0_2.length != l0_0.length)=false:=by rw [c4];exact bne_self_eq_false _
     have HE:=zk (show wellB l0_0.length l0_1 l0_2 = !!l0_2.all (rowOk l0_0.length) by simp [wellB,c3,c4,C1.out,C2.out])
     clear c3 c4
     generalize hm:(!l0_2.all (rowOk l0_0.length))=m at HE
     have HM:=zk hm
     clear hm
     go_wp2_with (first|(go_at_call 49;refine (any_bad _ l0_1 _ l0_0.length (w.heap.size+1) false _ ?ha HN.out ?hb ?hc C3.out).mono ?_;(case ha=>repeat (first|(with_reducible exact HB.out)|(with_reducible refine Kd.C_alloc ?_ _)));(case hb=>go_simp);(case hc=>go_simp);rintro e w2 ⟨rfl,hb⟩;have k1:w2.cell? ⟨w.heap.size,2,none⟩=some (.slice A0_2 l0_2.length c0_2):=pw_cell_below hb (by go_simp);have k2:w2.cell? ⟨w.heap.size+1,0,none⟩=some (.int .i64 l0_0.length):=pw_cell_below hb (by go_simp);have k3:w2.cell? ⟨w.heap.size+1+1,0,none⟩=some (.func (.func 55) #[] #[.pointer (some ⟨w.heap.size+1,0,none⟩)]):=pw_cell_below hb (by go_simp);have K2:=zk k2;have K3:=zk k3;have HW:=zk (show Below w.heap.size w w2 from below_step za58 hb);clear hb)|(go_at_call 47;refine (any_row _ l0_2 _ l0_0.length (w.heap.size+1) (w.heap.size+1+1) m _ (Kd.C_below HC.out HW.out) HN.out K2.out K3.out HM.out).mono ?_;rintro e w3 ⟨rfl,hb3⟩;have HW3:=zk hb3;clear hb3))
     go_ret
     exact ⟨congrArg (fun b=>Ending.returned (Value.bool b)) HE.out.symm,below_step HW.out HW3.out⟩
    ·have d4:((l0_2.length:Int) != (l0_0.length:Int))=true:=bne_iff_ne.mpr (by omega)
     have d5:(l0_2.length != l0_0.length)=true:=bne_iff_ne.mpr c4
     have HE:=zk (show wellB l0_0.length l0_1 l0_2=false by simp [wellB,c4])
     clear c3 c4
     go_wp2_with (first|(go_at_call 49;refine (any_bad _ l0_1 _ l0_0.length (w.heap.size+1) false _ ?ha HN.out ?hb ?hc C3.out).mono ?_;(case ha=>repeat (first|(with_reducible exact HB.out)|(with_reducible refine Kd.C_alloc ?_ _)));(case hb=>go_simp);(case hc=>go_simp);rintro e w2 ⟨rfl,hb⟩;have k1:w2.cell? ⟨w.heap.size,2,none⟩=some (.slice A0_2 l0_2.length c0_2):=pw_cell_below hb (by go_simp);have k2:w2.cell? ⟨w.heap.size+1,0,none⟩=some (.int .i64 l0_0.length):=pw_cell_below hb (by go_simp);have HW:=zk (show Below w.heap.size w w2 from below_step za58 hb);clear hb))
     go_ret
     exact ⟨congrArg (fun b=>Ending.returned (Value.bool b)) HE.out.symm,HW.out⟩
  ·have d2:((l0_1.length:Int) != 3)=true:=bne_iff_ne.mpr (by omega)
   have HE:=zk (show wellB l0_0.length l0_1 l0_2=false by simp [wellB,c2])
   clear c2
   go_wp2
   go_ret
   exact ⟨congrArg (fun b=>Ending.returned (Value.bool b)) HE.out.symm,za58⟩
end Go.Proofs.Ythkbgoohiinmbaa.Ext
namespace Go.Proofs.Ythkbgoohiinmbaa.A
open Go.RowKit Ythkbgoohiinmbaa.Ext YthkbgoohiinmbaaW.PrintWords YthkbgoohiinmbaaW.PrintLast YthkbgoohiinmbaaW.PrintMore
attribute [local go_sem] max2_int min2_int max_two min_two max_three min_three max_four min_four
def impl_EqualMonoid.f (k:Nat) (l0_0:List (List Int)) (l0_1:List Int) (l0_2:List (List Int)) (l1_0:List (List Int)) (l1_1:List Int) (l1_2:List (List Int)):Option (Bool):=(impl_equalRows.f l0_0 l1_0).bind fun t8003=>(if t8003=true then ((slices_Equal_int_int.f k l0_1 l1_1).bind fun t8004=>(if t8004=true then ((impl_equalRows.f l0_2 l1_2).bind fun t8005=>(some t8005)) else (some false))) else (some false))
theorem impl_EqualMonoid.calls (k:Nat) (A0_0:Option Addr) (c0_0:Nat) (l0_0:List (List Int)) (A0_1:Option Addr) (c0_1:Nat) (l0_1:List Int) (A0_2:Option Addr) (c0_2:Nat) (l0_2:List (List Int)) (A1_0:Option Addr) (c1_0:Nat) (l1_0:List (List Int)) (A1_1:Option Addr) (c1_1:Nat) (l1_1:List Int) (A1_2:Option Addr) (c1_2:Nat) (l1_2:List (List Int)) (r:Bool) (w:World) (hr0_0:Kd.C (Kd.slice 3 (Kd.int .i64)) w A0_0 l0_0.length l0_0) (hc0_0:l0_0.length≤c0_0) (hr0_1:Kd.C (Kd.int .i64) w A0_1 l0_1.length l0_1) (hc0_1:l0_1.length≤c0_1) (hr0_2:Kd.C (Kd.slice 3 (Kd.int .i64)) w A0_2 l0_2.length l0_2) (hc0_2:l0_2.length≤c0_2) (hr1_0:Kd.C (Kd.slice 3 (Kd.int .i64)) w A1_0 l1_0.length l1_0) (hc1_0:l1_0.length≤c1_0) (hr1_1:Kd.C (Kd.int .i64) w A1_1 l1_1.length l1_1) (hc1_1:l1_1.length≤c1_1) (hr1_2:Kd.C (Kd.slice 3 (Kd.int .i64)) w A1_2 l1_2.length l1_2) (hc1_2:l1_2.length≤c1_2) (h:impl_EqualMonoid.f k l0_0 l0_1 l0_2 l1_0 l1_1 l1_2=some r) :
   Calls Try.prog 8 #[.agg #[.slice A0_0 l0_0.length c0_0,.slice A0_1 l0_1.length c0_1,.slice A0_2 l0_2.length c0_2],.agg #[.slice A1_0 l1_0.length c1_0,.slice A1_1 l1_1.length c1_1,.slice A1_2 l1_2.length c1_2]] w fun e w'=>e = .returned (.bool r)∧Below w.heap.size w w':=by
 have hu31:=Try.underlying31
 have HR0_0:=zk hr0_0
 have HC0_0:=zk hc0_0
 clear hr0_0 hc0_0
 have HR0_1:=zk hr0_1
 have HC0_1:=zk hc0_1
 clear hr0_1 hc0_1
 have HR0_2:=zk hr0_2
 have HC0_2:=zk hc0_2
 clear hr0_2 hc0_2
 have HR1_0:=zk hr1_0
 have HC1_0:=zk hc1_0
 clear hr1_0 hc1_0
 have HR1_1:=zk hr1_1
 have HC1_1:=zk hc1_1
 clear hr1_1 hc1_1
 have HR1_2:=zk hr1_2
 have HC1_2:=zk hc1_2
 clear hr1_2 hc1_2
 have HB:=zk (Below.refl w.heap.size w)
 have H:=h
 unfold impl_EqualMonoid.f at H
 clear h
 obtain ⟨t3,A3,H⟩:=zO H
 try dsimp only at H
 by_cases c4:t3=true
 subst c4
 rw [if_pos rfl] at H
 try dsimp only at H
 obtain ⟨t4,A5,H⟩:=zO H
 try dsimp only at H
 by_cases c6:t4=true
 subst c6
 rw [if_pos rfl] at H
 try dsimp only at H
 obtain ⟨t5,A7,H⟩:=zO H
 try dsimp only at H
 rotate_left
 replace c6:=Bool.eq_false_iff.mpr c6
 subst c6
 rw [if_neg zff] at H
 try dsimp only at H
 rotate_left
 replace c4:=Bool.eq_false_iff.mpr c4
 subst c4
 rw [if_neg zff] at H
 try dsimp only at H
 rotate_left
 all_goals
  obtain rfl:=zi H
  go_enter Try.func8,Try.ntmps8
  go_wp2_with (first|((with_reducible refine gate_dst (N:=2) rfl ?_);refine zE (cs:=#[.slice A0_0 l0_0.length c0_0,.slice A0_1 l0_1.length c0_1,.slice A0_2 l0_2.length c0_2]) (t:=31) ?_;intro gb1 hg w13 hbox hb;have BK1:=zk hbox;have GW1:=zk (zs (w:=w) hg za3);have GE1:=GW1;replace HB:=yB HB hb;clear hb hbox hg)|((with_reducible refine gate_dst (N:=3) rfl ?_);refine zE (cs:=#[.slice A1_0 l1_0.length c1_0,.slice A1_1 l1_1.length c1_1,.slice A1_2 l1_2.length c1_2]) (t:=31) ?_;intro gb2 hg w14 hbox hb;have BK2:=zk hbox;have GW2:=zk (zs (w:=w) hg za3);have GE2:=GW2;have NB1_2:=yn hg BK1;have NB2_1:=yp hg BK1;replace BK1:=yb BK1 hb;replace HB:=yB HB hb;clear hb hbox hg;have hnb15:=NB1_2.out;have hnc15:=NB2_1.out;obtain ⟨hcz16_0,hcz16_1,hcz16_2,hfz16_0,hfz16_1,hfz16_2⟩:=blk3 BK1.out;obtain ⟨hcz17_0,hcz17_1,hcz17_2,hfz17_0,hfz17_1,hfz17_2⟩:=blk3 BK2.out)|((with_reducible refine gate_callee (f:=30) rfl ?_);refine zg (some 9) Try.func30 #[.slice A0_0 l0_0.length c0_0,.slice A1_0 l1_0.length c1_0] rfl za4 ?_;(with_reducible refine (impl_equalRows.calls _ _ l0_0 _ _ l1_0 _ _ ?side1 ?side2 ?side3 ?side4 A3.out).mono ?_);(case side1=>repeat (first|exact (Kd.C_below HR0_0.out HB.out)|(with_reducible refine Kd.C_alloc ?_ _)|(with_reducible refine Kd.C_drewN ?_ _)|(with_reducible refine Kd.C_drew ?_)));(case side2=>exact HC0_0.out);(case side3=>repeat (first|exact (Kd.C_below HR1_0.out HB.out)|(with_reducible refine Kd.C_alloc ?_ _)|(with_reducible refine Kd.C_drewN ?_ _)|(with_reducible refine Kd.C_drew ?_)));(case side4=>exact HC1_0.out);rintro e w' ⟨rfl,⟨nd,rfl⟩⟩;refine ⟨_,rfl,?_⟩)|(go_at_call 25;(with_reducible refine (slices_Equal_int_int.calls k _ _ l0_1 _ _ l1_1 _ _ ?side1 ?side2 ?side3 ?side4 A5.out).mono ?_);(case side1=>repeat (first|exact (Kd.C_below HR0_1.out za3)|(with_reducible refine Kd.C_alloc ?_ _)|(with_reducible refine Kd.C_drewN ?_ _)|(with_reducible refine Kd.C_drew ?_)));(case side2=>exact HC0_1.out);(case side3=>repeat (first|exact (Kd.C_below HR1_1.out za3)|(with_reducible refine Kd.C_alloc ?_ _)|(with_reducible refine Kd.C_drewN ?_ _)|(with_reducible refine Kd.C_drew ?_)));(case side4=>exact HC1_1.out);rintro e w' ⟨rfl,⟨nd,rfl⟩⟩)|(go_at_call 30;(with_reducible refine (impl_equalRows.calls _ _ l0_2 _ _ l1_2 t5 _ ?side1 ?side2 ?side3 ?side4 A7.out).mono ?_);(case side1=>repeat (first|exact (Kd.C_below HR0_2.out za3)|(with_reducible refine Kd.C_alloc ?_ _)|(with_reducible refine Kd.C_drewN ?_ _)|(with_reducible refine Kd.C_drew ?_)));(case side2=>exact HC0_2.out);(case side3=>repeat (first|exact (Kd.C_below HR1_2.out za3)|(with_reducible refine Kd.C_alloc ?_ _)|(with_reducible refine Kd.C_drewN ?_ _)|(with_reducible refine Kd.C_drew ?_)));(case side4=>exact HC1_2.out);rintro e w' ⟨rfl,⟨nd,rfl⟩⟩))
  go_ret
  exact ⟨za15,za3⟩
def impl_mapOf.l0:Nat→ByteArray→Int→Int→List (List Int)→List Int→List (List Int)→Option (Int)
 | 0,_,_,_,_,_,_=>none
 | k+1,x1,x5,x6,x34002000,x34002001,x34002002=>if x6 < (x1.size:Int) then (if 0≤x5 then (if x5 < (x34002002.length:Int) then (if 0≤x6 then ((impl_LetterIndex.f (bt x1 x6)).bind fun t34003=>(if 0≤t34003 then (if t34003 < (x34002001.length:Int) then (if 0≤(rd x34002001 t34003) then (if (rd x34002001 t34003) < ((rd_L3 x34002002 x5).length:Int) then (impl_mapOf.l0 k x1 (rd (rd_L3 x34002002 x5) (rd x34002001 t34003)) (wrap64 (x6+1)) x34002000 x34002001 x34002002) else (none)) else (none)) else (none)) else (none))) else (none)) else (none)) else (none)) else (some x5)
def impl_mapOf.f (k:Nat) (l0_0:List (List Int)) (l0_1:List Int) (l0_2:List (List Int)) (a1:ByteArray):Option (Int):=impl_mapOf.l0 k a1 0 0 l0_0 l0_1 l0_2
theorem impl_mapOf.calls (k:Nat) (A0_0:Option Addr) (c0_0:Nat) (l0_0:List (List Int)) (A0_1:Option Addr) (c0_1:Nat) (l0_1:List Int) (A0_2:Option Addr) (c0_2:Nat) (l0_2:List (List Int)) (a1:ByteArray) (r:Int) (w:World) (hr0_0:Kd.C (Kd.slice 3 (Kd.int .i64)) w A0_0 l0_0.length l0_0) (hc0_0:l0_0.length≤c0_0) (hr0_1:Kd.C (Kd.int .i64) w A0_1 l0_1.length l0_1) (hc0_1:l0_1.length≤c0_1) (hr0_2:Kd.C (Kd.slice 3 (Kd.int .i64)) w A0_2 l0_2.length l0_2) (hc0_2:l0_2.length≤c0_2) (h:impl_mapOf.f k l0_0 l0_1 l0_2 a1=some r) :
   Calls Try.prog 34 #[.agg #[.slice A0_0 l0_0.length c0_0,.slice A0_1 l0_1.length c0_1,.slice A0_2 l0_2.length c0_2],.string a1] w fun e w'=>e = .returned (.int .i64 r)∧Below w.heap.size w w':=by
 have hu31:=Try.underlying31
 have HR0_0:=zk hr0_0
 have HC0_0:=zk hc0_0
 clear hr0_0 hc0_0
 have HR0_1:=zk hr0_1
 have HC0_1:=zk hc0_1
 clear hr0_1 hc0_1
 have HR0_2:=zk hr0_2
 have HC0_2:=zk hc0_2
 clear hr0_2 hc0_2
 have HB:=zk (Below.refl w.heap.size w)
 have H:=h
 unfold impl_mapOf.f at H
 clear h
 have H':=zk H
 clear H
 go_enter Try.func34,Try.ntmps34
 go_wp2_with (first|((with_reducible refine gate_dst (N:=2) rfl ?_);refine zE (cs:=#[.slice A0_0 l0_0.length c0_0,.slice A0_1 l0_1.length c0_1,.slice A0_2 l0_2.length c0_2]) (t:=31) ?_;intro gb1 hg w3 hbox hb;have BK1:=zk hbox;have GW1:=zk (zs (w:=w) hg za3);have GE1:=GW1;replace HB:=yB HB hb;clear hb hbox hg))
 repeat (go_quiet (first|((with_reducible refine gate_dst (N:=2) rfl ?_);refine zE (cs:=#[.slice A0_0 l0_0.length c0_0,.slice A0_1 l0_1.length c0_1,.slice A0_2 l0_2.length c0_2]) (t:=31) ?_;intro gb1 hg w3 hbox hb;have BK1:=zk hbox;have GW1:=zk (zs (w:=w) hg za3);have GE1:=GW1;replace HB:=yB HB hb;clear hb hbox hg));try go_wp2_with (first|((with_reducible refine gate_dst (N:=2) rfl ?_);refine zE (cs:=#[.slice A0_0 l0_0.length c0_0,.slice A0_1 l0_1.length c0_1,.slice A0_2 l0_2.length c0_2]) (t:=31) ?_;intro gb1 hg w3 hbox hb;have BK1:=zk hbox;have GW1:=zk (zs (w:=w) hg za3);have GE1:=GW1;replace HB:=yB HB hb;clear hb hbox hg)))
 try simp only [Act.put,zt,zv,zu]
 go_loopg [5,6] k (fun kq v5 v6 w'=>∃ (x5_1:Int) (x6_1:Int),v5 = .int .i64 x5_1∧v6 = .int .i64 x6_1∧Aside0 (impl_mapOf.l0 kq a1 x5_1 x6_1 l0_0 l0_1 l0_2=some r)∧Aside0 (kq≤k)∧Aside0 (w'.heap[gb1]? = some (.cells #[(.slice A0_0 l0_0.length c0_0),(.slice A0_1 l0_1.length c0_1),(.slice A0_2 l0_2.length c0_2)] 31 (0,0)))∧Aside0 (Below w.heap.size w w'))
 case atStart=>exact ⟨(0),(0),za13,za13,H',⟨Nat.le_refl _⟩,⟨za0 BK1.out⟩,⟨za3⟩⟩
 case round =>
  clear H'
  obtain ⟨x5_1,x6_1,rfl,rfl,HA,HK1,BK1,HB⟩:=hrel
  cases gk with
  | zero=>exact absurd HA.out (by simp [impl_mapOf.l0])
  | succ k1 =>
   have H:=HA.out
   clear HA
   simp only [impl_mapOf.l0] at H
   by_cases c4:x6_1 < (a1.size:Int)
   rw [if_pos c4] at H
   have c4b0:=zdl c4
   clear c4
   by_cases c5:0≤x5_1
   rw [if_pos c5] at H
   have c5b0:=zdle c5
   clear c5
   by_cases c6:x5_1 < (l0_2.length:Int)
   rw [if_pos c6] at H
   have c6b0:=zdl c6
   clear c6
   by_cases c7:0≤x6_1
   rw [if_pos c7] at H
   have c7b0:=zdle c7
   clear c7
   obtain ⟨t3,A9,H⟩:=zO H
   try dsimp only at H
   by_cases c10:0≤t3
   rw [if_pos c10] at H
   have c10b0:=zdle c10
   clear c10
   by_cases c11:t3 < (l0_1.length:Int)
   rw [if_pos c11] at H
   have c11b0:=zdl c11
   clear c11
   by_cases c12:0≤(rd l0_1 t3)
   rw [if_pos c12] at H
   have c12b0:=zdle c12
   clear c12
   by_cases c13:(rd l0_1 t3) < ((rd_L3 l0_2 x5_1).length:Int)
   ·rw [if_pos c13] at H
    have c13b0:=zdl c13
    clear c13
    have H':=zk H
    clear H
    obtain ⟨hcz14_0,hcz14_1,hcz14_2,hfz14_0,hfz14_1,hfz14_2⟩:=blk3 BK1.out
    have p34002:0≤(x5_1:Int):=of_decide_eq_true za7
    have q34002:x5_1 < (l0_2.length:Int):=of_decide_eq_true za7
    obtain ⟨ad34002,A34002_0,c34002_0,e34002,hx34002_0,hl34002_0,hi34002_0⟩:=at_L3 HR0_2.out x5_1 p34002 q34002
    cases e34002
    replace hx34002_0:=zx HB.out hx34002_0
    have HR34002_0:=zk hi34002_0
    have HC34002_0:=zk hl34002_0
    clear hi34002_0 hl34002_0
    replace p34002:=eq_true p34002
    replace q34002:=eq_true q34002
    have p8:0≤(x6_1:Int):=of_decide_eq_true za7
    have q8:x6_1 < (a1.size:Int):=of_decide_eq_true za7
    have hx8:=bt_at a1 x6_1
    replace p8:=eq_true p8
    replace q8:=eq_true q8
    go_wp2_with (first|(go_at_call 57;(with_reducible refine (impl_LetterIndex.calls (bt a1 x6_1) t3 _ A9.out).mono ?_);rintro e w' ⟨rfl,⟨nd,rfl⟩⟩;(try first|exact ⟨rfl,_,World.drewN_drewN _ _ _⟩|exact ⟨rfl,_,Eq.trans (World.drewN_drewN _ _ _) (congrArg (World.drewN _) (Nat.add_assoc _ _ _))⟩);have p34004:0≤(t3:Int):=of_decide_eq_true za7;have q34004:t3 < (l0_1.length:Int):=of_decide_eq_true za7;obtain ⟨ad34004,e34004,hx34004_0⟩:=Kd.at_int HR0_1.out t3 p34004 q34004;cases e34004;replace hx34004_0:=zx HB.out hx34004_0;replace p34004:=eq_true p34004;replace q34004:=eq_true q34004;have p34005:0≤((rd l0_1 t3):Int):=of_decide_eq_true za7;have q34005:(rd l0_1 t3) < ((rd_L3 l0_2 x5_1).length:Int):=of_decide_eq_true za7;obtain ⟨ad34005,e34005,hx34005_0⟩:=Kd.at_int HR34002_0.out (rd l0_1 t3) p34005 q34005;cases e34005;replace hx34005_0:=zx HB.out hx34005_0;replace p34005:=eq_true p34005;replace q34005:=eq_true q34005))
    repeat (go_quiet (first|(go_at_call 57;(with_reducible refine (impl_LetterIndex.calls (bt a1 x6_1) t3 _ A9.out).mono ?_);rintro e w' ⟨rfl,⟨nd,rfl⟩⟩;(try first|exact ⟨rfl,_,World.drewN_drewN _ _ _⟩|exact ⟨rfl,_,Eq.trans (World.drewN_drewN _ _ _) (congrArg (World.drewN _) (Nat.add_assoc _ _ _))⟩);have p34004:0≤(t3:Int):=of_decide_eq_true za7;have q34004:t3 < (l0_1.length:Int):=of_decide_eq_true za7;obtain ⟨ad34004,e34004,hx34004_0⟩:=Kd.at_int HR0_1.out t3 p34004 q34004;cases e34004;replace hx34004_0:=zx HB.out hx34004_0;replace p34004:=eq_true p34004;replace q34004:=eq_true q34004;have p34005:0≤((rd l0_1 t3):Int):=of_decide_eq_true za7;have q34005:(rd l0_1 t3) < ((rd_L3 l0_2 x5_1).length:Int):=of_decide_eq_true za7;obtain ⟨ad34005,e34005,hx34005_0⟩:=Kd.at_int HR34002_0.out (rd l0_1 t3) p34005 q34005;cases e34005;replace hx34005_0:=zx HB.out hx34005_0;replace p34005:=eq_true p34005;replace q34005:=eq_true q34005));try go_wp2_with (first|(go_at_call 57;(with_reducible refine (impl_LetterIndex.calls (bt a1 x6_1) t3 _ A9.out).mono ?_);rintro e w' ⟨rfl,⟨nd,rfl⟩⟩;(try first|exact ⟨rfl,_,World.drewN_drewN _ _ _⟩|exact ⟨rfl,_,Eq.trans (World.drewN_drewN _ _ _) (congrArg (World.drewN _) (Nat.add_assoc _ _ _))⟩);have p34004:0≤(t3:Int):=of_decide_eq_true za7;have q34004:t3 < (l0_1.length:Int):=of_decide_eq_true za7;obtain ⟨ad34004,e34004,hx34004_0⟩:=Kd.at_int HR0_1.out t3 p34004 q34004;cases e34004;replace hx34004_0:=zx HB.out hx34004_0;replace p34004:=eq_true p34004;replace q34004:=eq_true q34004;have p34005:0≤((rd l0_1 t3):Int):=of_decide_eq_true za7;have q34005:(rd l0_1 t3) < ((rd_L3 l0_2 x5_1).length:Int):=of_decide_eq_true za7;obtain ⟨ad34005,e34005,hx34005_0⟩:=Kd.at_int HR34002_0.out (rd l0_1 t3) p34005 q34005;cases e34005;replace hx34005_0:=zx HB.out hx34005_0;replace p34005:=eq_true p34005;replace q34005:=eq_true q34005)))
    go_roundg k1
    case measure=>have:=HK1.out;omega
    case rel=>exact ⟨(rd (rd_L3 l0_2 x5_1) (rd l0_1 t3)),(wrap64 (x6_1+1)),za13,za13,H',⟨za61⟩,⟨za0 BK1.out⟩,⟨za3⟩⟩
   ·rw [if_neg c13] at H
    exact absurd H (by simp)
   ·rw [if_neg c12] at H
    exact absurd H (by simp)
   ·rw [if_neg c11] at H
    exact absurd H (by simp)
   ·rw [if_neg c10] at H
    exact absurd H (by simp)
   ·rw [if_neg c7] at H
    exact absurd H (by simp)
   ·rw [if_neg c6] at H
    exact absurd H (by simp)
   ·rw [if_neg c5] at H
    exact absurd H (by simp)
   ·rw [if_neg c4] at H
    have c4b0:=zdnl c4
    clear c4
    obtain rfl:=zi H
    go_wp2
    repeat (go_quiet (fail);try go_wp2)
    go_ret
    exact ⟨za15,za3⟩
def impl_MapOf.f (k:Nat) (l0_0:List (List Int)) (l0_1:List Int) (l0_2:List (List Int)) (a1:ByteArray):Option (Int × Bool):=(impl_IsWord.f k a1).bind fun t10002=>(if t10002=true then ((impl_wellFormed.f l0_0 l0_1 l0_2).bind fun t10003=>(if t10003=true then ((impl_mapOf.f k l0_0 l0_1 l0_2 a1).bind fun t10004=>(some (t10004,true))) else (some (0,false)))) else (some (0,false)))
theorem impl_MapOf.calls (k:Nat) (A0_0:Option Addr) (c0_0:Nat) (l0_0:List (List Int)) (A0_1:Option Addr) (c0_1:Nat) (l0_1:List Int) (A0_2:Option Addr) (c0_2:Nat) (l0_2:List (List Int)) (a1:ByteArray) (r1:Int) (r2:Bool) (w:World) (hr0_0:Kd.C (Kd.slice 3 (Kd.int .i64)) w A0_0 l0_0.length l0_0) (hc0_0:l0_0.length≤c0_0) (hr0_1:Kd.C (Kd.int .i64) w A0_1 l0_1.length l0_1) (hc0_1:l0_1.length≤c0_1) (hr0_2:Kd.C (Kd.slice 3 (Kd.int .i64)) w A0_2 l0_2.length l0_2) (hc0_2:l0_2.length≤c0_2) (h:impl_MapOf.f k l0_0 l0_1 l0_2 a1=some (r1,r2)) :
   Calls Try.prog 10 #[.agg #[.slice A0_0 l0_0.length c0_0,.slice A0_1 l0_1.length c0_1,.slice A0_2 l0_2.length c0_2],.string a1] w fun e w'=>e = .returned (.tuple #[.int .i64 r1,.bool r2])∧Below w.heap.size w w':=by
 have hu31:=Try.underlying31
 have HR0_0:=zk hr0_0
 have HC0_0:=zk hc0_0
 clear hr0_0 hc0_0
 have HR0_1:=zk hr0_1
 have HC0_1:=zk hc0_1
 clear hr0_1 hc0_1
 have HR0_2:=zk hr0_2
 have HC0_2:=zk hc0_2
 clear hr0_2 hc0_2
 have HB:=zk (Below.refl w.heap.size w)
 have H:=h
 unfold impl_MapOf.f at H
 clear h
 obtain ⟨t2,A3,H⟩:=zO H
 try dsimp only at H
 by_cases c4:t2=true
 subst c4
 rw [if_pos rfl] at H
 try dsimp only at H
 obtain ⟨t3,A5,H⟩:=zO H
 try dsimp only at H
 by_cases c6:t3=true
 subst c6
 rw [if_pos rfl] at H
 try dsimp only at H
 obtain ⟨t4,A7,H⟩:=zO H
 try dsimp only at H
 rotate_left
 replace c6:=Bool.eq_false_iff.mpr c6
 subst c6
 rw [if_neg zff] at H
 try dsimp only at H
 rotate_left
 replace c4:=Bool.eq_false_iff.mpr c4
 subst c4
 rw [if_neg zff] at H
 try dsimp only at H
 rotate_left
 all_goals
  simp only [Option.some.injEq,Prod.mk.injEq] at H
  obtain ⟨rfl,rfl⟩:=H
  go_enter Try.func10,Try.ntmps10
  go_wp2_with (first|((with_reducible refine gate_dst (N:=2) rfl ?_);refine zE (cs:=#[.slice A0_0 l0_0.length c0_0,.slice A0_1 l0_1.length c0_1,.slice A0_2 l0_2.length c0_2]) (t:=31) ?_;intro gb1 hg w13 hbox hb;have BK1:=zk hbox;have GW1:=zk (zs (w:=w) hg za3);have GE1:=GW1;replace HB:=yB HB hb;clear hb hbox hg)|((with_reducible refine gate_callee (f:=32) rfl ?_);refine zg (some 7) Try.func32 #[.string a1] rfl za4 ?_;(with_reducible refine (impl_IsWord.calls k a1 _ _ A3.out).mono ?_);rintro e w' ⟨rfl,⟨nd,rfl⟩⟩;refine ⟨_,rfl,?_⟩;obtain ⟨hcz14_0,hcz14_1,hcz14_2,hfz14_0,hfz14_1,hfz14_2⟩:=blk3 BK1.out)|(go_at_call 33;(with_reducible refine (impl_wellFormed.calls _ _ l0_0 _ _ l0_1 _ _ l0_2 _ _ ?side1 ?side2 ?side3 ?side4 ?side5 ?side6 A5.out).mono ?_);(case side1=>repeat (first|exact (Kd.C_below HR0_0.out za3)|(with_reducible refine Kd.C_alloc ?_ _)|(with_reducible refine Kd.C_drewN ?_ _)|(with_reducible refine Kd.C_drew ?_)));(case side2=>exact HC0_0.out);(case side3=>repeat (first|exact (Kd.C_below HR0_1.out za3)|(with_reducible refine Kd.C_alloc ?_ _)|(with_reducible refine Kd.C_drewN ?_ _)|(with_reducible refine Kd.C_drew ?_)));(case side4=>exact HC0_1.out);(case side5=>repeat (first|exact (Kd.C_below HR0_2.out za3)|(with_reducible refine Kd.C_alloc ?_ _)|(with_reducible refine Kd.C_drewN ?_ _)|(with_reducible refine Kd.C_drew ?_)));(case side6=>exact HC0_2.out);rintro e w10 ⟨rfl,hb⟩;replace BK1:=yb BK1 hb;replace HB:=yB HB hb;(try clear hb);obtain ⟨hcz11_0,hcz11_1,hcz11_2,hfz11_0,hfz11_1,hfz11_2⟩:=blk3 BK1.out)|((with_reducible refine gate_callee (f:=34) rfl ?_);refine zg (some 16) Try.func34 #[.agg #[.slice A0_0 l0_0.length c0_0,.slice A0_1 l0_1.length c0_1,.slice A0_2 l0_2.length c0_2],.string a1] rfl za4 ?_;(with_reducible refine (impl_mapOf.calls k _ _ l0_0 _ _ l0_1 _ _ l0_2 a1 t4 _ ?side1 ?side2 ?side3 ?side4 ?side5 ?side6 A7.out).mono ?_);(case side1=>repeat (first|exact (Kd.C_below HR0_0.out HB.out)|(with_reducible refine Kd.C_alloc ?_ _)|(with_reducible refine Kd.C_drewN ?_ _)|(with_reducible refine Kd.C_drew ?_)));(case side2=>exact HC0_0.out);(case side3=>repeat (first|exact (Kd.C_below HR0_1.out HB.out)|(with_reducible refine Kd.C_alloc ?_ _)|(with_reducible refine Kd.C_drewN ?_ _)|(with_reducible refine Kd.C_drew ?_)));(case side4=>exact HC0_1.out);(case side5=>repeat (first|exact (Kd.C_below HR0_2.out HB.out)|(with_reducible refine Kd.C_alloc ?_ _)|(with_reducible refine Kd.C_drewN ?_ _)|(with_reducible refine Kd.C_drew ?_)));(case side6=>exact HC0_2.out);rintro e w12 ⟨rfl,hb⟩;refine ⟨_,rfl,?_⟩;replace BK1:=yb BK1 hb;replace HB:=yB HB hb;(try clear hb)))
  go_ret2
  exact ⟨za15,za3⟩
end Go.Proofs.Ythkbgoohiinmbaa.A
namespace Go.Proofs.Ythkbgoohiinmbaa.Ext
open Go.RowKit YthkbgoohiinmbaaW.PrintWords YthkbgoohiinmbaaW.PrintLast Ythkbgoohiinmbaa.A
def dfIn (n:Nat) (k:Int):Bool:=decide (0≤k) && decide (k≤(n:Int) - 1)
def dfRow (n:Nat) (l:List Int):Bool:=decide (l.length=3) && l.all (dfIn n)
def dfaB (A:List Bool) (P:List (List Int)):Bool:=decide (1≤A.length∧A.length≤40) && (decide (P.length=A.length) && P.all (dfRow A.length))
-- EXT loop.example/g00582/impl.IsValidDfa making
def impl_IsValidDfa.f (l0_0:List Bool) (l0_1:List (List Int)):Option Bool:=some (dfaB l0_0 l0_1)
theorem df_within (k:Int) (n:Nat):impl_within.f k 0 ((n:Int) - 1)=some (dfIn n k):=by
 unfold impl_within.f dfIn
 by_cases h:k ≥ 0
 ·rw [if_pos h];simp [show 0≤k from h]
 ·rw [if_neg h];simp [show ¬ 0≤k from h]
theorem df_states (n:Nat):impl_within.f (n:Int) 1 40=some (decide (1≤n∧n≤40)):=by
 unfold impl_within.f
 by_cases h:(n:Int) ≥ 1
 ·rw [if_pos h]
  congr 1
  exact decide_eq_decide.2 ⟨fun h'=>by omega,fun h'=>by omega⟩
 ·rw [if_neg h]
  congr 1
  exact (decide_eq_false (by omega)).symm
set_option maxHeartbeats 1000000 in
theorem df_bad (k:Int) (n:Nat) (g:Nat) (r:Bool) (W:World) (hn:n≤9223372036854775807) (hr:(!dfIn n k)=r) (hc:W.cell? ⟨g,0,none⟩=some (.int .i64 n)) :
  Calls Try.prog 50 #[.int .i64 k,.pointer (some ⟨g,0,none⟩)] W fun e W'=>e = .returned (.bool r)∧Below W.heap.size W W':=by
 obtain rfl:=hr
 have hw:(n:Int) - 1=wrap64 ((n:Int) - 1):=by unfold wrap64;omega
 have hi:=zk (df_within k n)
 generalize dfIn n k=b at hi ⊢
 have HN:=zk hn
 clear hw
 go_enter Try.func50,Try.ntmps50
 go_wp2_with (go_at_call 46;refine (impl_within.calls k 0 ((n:Int) - 1) b _ hi.out).mono ?_;rintro e w' ⟨rfl,⟨nd,rfl⟩⟩)
 go_ret
 exact ⟨rfl,(Drawn0.step (Drawn0.refl _) _).below⟩
theorem df_anyI (p:Int→Bool) (l:List Int):anyN (fun i=>p (rd l (i:Int))) l.length=l.any p:=by
 unfold anyN
 rw [Bool.eq_iff_iff,List.any_eq_true,List.any_eq_true]
 constructor
 ·rintro ⟨i,hi,hp⟩
  have hi:=List.mem_range.1 hi
  refine ⟨l[i],List.getElem_mem hi,?_⟩
  simpa [rd,hi] using hp
 ·rintro ⟨x,hx,hp⟩
  obtain ⟨i,hi,rfl⟩:=List.mem_iff_getElem.1 hx
  exact ⟨i,List.mem_range.2 hi,by simpa [rd,hi] using hp⟩
theorem df_anyR (p:List Int→Bool) (l:List (List Int)):anyN (fun i=>p (l.getD i [])) l.length=l.any p:=by
 unfold anyN
 rw [Bool.eq_iff_iff,List.any_eq_true,List.any_eq_true]
 constructor
 ·rintro ⟨i,hi,hp⟩
  have hi:=List.mem_range.1 hi
  refine ⟨l[i],List.getElem_mem hi,?_⟩
  simpa [hi] using hp
 ·rintro ⟨x,hx,hp⟩
  obtain ⟨i,hi,rfl⟩:=List.mem_iff_getElem.1 hx
  exact ⟨i,List.mem_range.2 hi,by simpa [hi] using hp⟩
theorem df_not {α:Type} (p:α→Bool) (l:List α):(!l.all p)=l.any fun x => !p x:=by simp [List.any_eq_not_all_not]
theorem df_anyBad (A:Option Addr) (l:List Int) (c n g:Nat) (r:Bool) (w:World) (hl:Kd.C (Kd.int .i64) w A l.length l) (hn:n≤9223372036854775807) (hg:g < w.heap.size) (hc:w.cell? ⟨g,0,none⟩=some (.int .i64 n)) (hr:(!l.all (dfIn n))=r) :
  Calls Try.prog 49 #[.slice A l.length c,.func (.func 50) #[] #[.pointer (some ⟨g,0,none⟩)]] w fun e w'=>e = .returned (.bool r)∧Below w.heap.size w w':=by
 refine any_ints (fun i => !dfIn n (rd l (i:Int))) 50 _ (enters_of Try.func50 (by kernel_rfl) rfl) A l.length c r w hl.2.1 ?_ ?_
 ·rw [df_anyI (fun k => !dfIn n k) l,← df_not];exact hr
 ·intro i hi
  obtain ⟨ad,e,hx⟩:=Kd.at_int hl (i:Int) (by omega) (by omega)
  refine ⟨ad,_,e,by simpa using hx,fun W hb=>?_⟩
  exact df_bad _ n g _ W hn rfl ((hb.cell (p:=⟨g,0,none⟩) hg).trans hc)
set_option maxHeartbeats 2000000 in
theorem df_row (A:Option Addr) (l:List Int) (c n g:Nat) (r:Bool) (W:World) (hl:Kd.C (Kd.int .i64) W A l.length l) (hn:n≤9223372036854775807) (hg:g < W.heap.size) (hc:W.cell? ⟨g,0,none⟩=some (.int .i64 n)) (hr:(!dfRow n l)=r) :
  Calls Try.prog 48 #[.slice A l.length c,.pointer (some ⟨g,0,none⟩)] W fun e W'=>e = .returned (.bool r)∧Below W.heap.size W W':=by
 have HL:=zk hl
 have HN:=zk hn
 have HG:=zk hg
 have HC:=zk hc
 clear hl hg
 by_cases h:l.length=3
 ·have c3b1:((l.length:Int) != 3)=false:=by rw [h];rfl
  have c3b2:(l.length != 3)=false:=by rw [h];rfl
  have HR:=zk (show (!l.all (dfIn n))=r by rw [← hr];simp [dfRow,h])
  clear h hr
  go_enter Try.func48,Try.ntmps48
  go_wp2_with (go_at_call 49;refine (df_anyBad _ l _ n g r _ HL.out HN.out HG.out HC.out HR.out).mono ?_;rintro e w' ⟨rfl,hb⟩)
  go_ret
  exact ⟨rfl,hb⟩
 ·have c3b1:((l.length:Int) != 3)=true:=bne_iff_ne.mpr (by omega)
  have c3b2:(l.length != 3)=true:=bne_iff_ne.mpr h
  have HR:=zk (show true=r by rw [← hr];simp [dfRow,h])
  clear h hr
  go_enter Try.func48,Try.ntmps48
  go_wp2
  go_ret
  exact ⟨congrArg (fun b=>Ending.returned (Value.bool b)) HR.out,Below.refl _ _⟩
theorem df_anyRow (A:Option Addr) (l:List (List Int)) (c n g:Nat) (r:Bool) (w:World) (hl:Kd.C (Kd.slice 3 (Kd.int .i64)) w A l.length l) (hn:n≤9223372036854775807) (hc:w.cell? ⟨g,0,none⟩=some (.int .i64 n)) (hr:(!l.all (dfRow n))=r) :
  Calls Try.prog 47 #[.slice A l.length c,.func (.func 48) #[] #[.pointer (some ⟨g,0,none⟩)]] w fun e w'=>e = .returned (.bool r)∧Below w.heap.size w w':=by
 refine any_rows (fun i => !dfRow n (l.getD i [])) 48 _ (enters_of Try.func48 (by kernel_rfl) rfl) A l.length c r w hl.2.1 ?_ ?_
 ·rw [df_anyR (fun x => !dfRow n x) l,← df_not];exact hr
 ·intro i hi
  obtain ⟨ad,A',c',row,e,hx,hle,hC,he⟩:=at_rows hl (i:Int) (by omega) (by omega)
  have he:=he.out
  rw [Int.toNat_natCast] at he hx
  subst he
  refine ⟨ad,_,e,hx,fun W hb=>?_⟩
  exact df_row A' _ c' n g _ W (Kd.C_below hC hb) hn (World.block_lt_of_cell? W _ (pw_cell_below hb hc)) (pw_cell_below hb hc) rfl
set_option maxHeartbeats 4000000 in
theorem impl_IsValidDfa.calls (A0_0:Option Addr) (c0_0:Nat) (l0_0:List Bool) (A0_1:Option Addr) (c0_1:Nat) (l0_1:List (List Int)) (r:Bool) (w:World) (hr0_0:Kd.C Kd.bool w A0_0 l0_0.length l0_0) (hc0_0:l0_0.length≤c0_0) (hr0_1:Kd.C (Kd.slice 3 (Kd.int .i64)) w A0_1 l0_1.length l0_1) (hc0_1:l0_1.length≤c0_1) (h:impl_IsValidDfa.f l0_0 l0_1=some r) :
  Calls Try.prog 21 #[.agg #[.slice A0_0 l0_0.length c0_0,.slice A0_1 l0_1.length c0_1]] w fun e w'=>e = .returned (.bool r)∧Below w.heap.size w w':=by
 obtain rfl:=zi h
 have HA:=zk hr0_0
 have HP:=zk hr0_1
 clear hr0_0 hr0_1 hc0_0 hc0_1 h
 have HN:=zk HA.out.2.1
 have HI:=zk (df_states l0_0.length)
 go_enter Try.func21,Try.ntmps21
 cases c1:decide (1≤l0_0.length∧l0_0.length≤40) with
 | false =>
  rw [c1] at HI
  have HE:=zk (show dfaB l0_0 l0_1=false by unfold dfaB;rw [c1];rfl)
  clear c1
  go_wp2_with (go_at_call 46;refine (impl_within.calls _ 1 40 false _ HI.out).mono ?_;rintro e w' ⟨rfl,⟨nd,rfl⟩⟩)
  go_ret
  exact ⟨congrArg (fun b=>Ending.returned (Value.bool b)) HE.out.symm,za67⟩
 | true =>
  rw [c1] at HI
  by_cases c4:l0_1.length=l0_0.length
  ·have d4:((l0_1.length:Int) != (l0_0.length:Int))=false:=by rw [c4];exact bne_self_eq_false _
   have d5:(l0_1.length != l0_0.length)=false:=by rw [c4];exact bne_self_eq_false _
   have HE:=zk (show dfaB l0_0 l0_1 = !!l0_1.all (dfRow l0_0.length) by unfold dfaB;rw [c1];simp [c4])
   clear c1 c4
   generalize hm:(!l0_1.all (dfRow l0_0.length))=m at HE
   have HM:=zk hm
   clear hm
   go_wp2_with (first|(go_at_call 46;refine (impl_within.calls _ 1 40 true _ HI.out).mono ?_;rintro e w' ⟨rfl,⟨nd,rfl⟩⟩)|(go_at_call 47;refine (df_anyRow _ l0_1 _ l0_0.length (w.heap.size+1) m _ ?ha HN.out ?hb HM.out).mono ?_;(case ha=>repeat (first|(with_reducible exact HP.out)|(with_reducible refine Kd.C_alloc ?_ _)|(with_reducible refine Kd.C_drewN ?_ _)|(with_reducible refine Kd.C_drew ?_)));(case hb=>go_simp);rintro e w3 ⟨rfl,hb3⟩;have HW3:=zk hb3;clear hb3))
   go_ret
   exact ⟨congrArg (fun b=>Ending.returned (Value.bool b)) HE.out.symm,below_step za67 HW3.out⟩
  ·have d4:((l0_1.length:Int) != (l0_0.length:Int))=true:=bne_iff_ne.mpr (by omega)
   have d5:(l0_1.length != l0_0.length)=true:=bne_iff_ne.mpr c4
   have HE:=zk (show dfaB l0_0 l0_1=false by unfold dfaB;simp [c4])
   clear c1 c4
   go_wp2_with (go_at_call 46;refine (impl_within.calls _ 1 40 true _ HI.out).mono ?_;rintro e w' ⟨rfl,⟨nd,rfl⟩⟩)
   go_ret
   exact ⟨congrArg (fun b=>Ending.returned (Value.bool b)) HE.out.symm,za67⟩
end Go.Proofs.Ythkbgoohiinmbaa.Ext
namespace Go.Proofs.Ythkbgoohiinmbaa.Ext
open Go.RowKit YthkbgoohiinmbaaW.PrintWords YthkbgoohiinmbaaW.PrintLast Ythkbgoohiinmbaa.A Ythkbgoohiinmbaa.F Ythkbgoohiinmbaa.Pl
def numOf (P:List (List Int)) (xs:List Int):Int:=idxN (fun i=>decide (xs=P.getD i [])) P.length
set_option maxHeartbeats 1000000 in
theorem num_eq (A B:Option Addr) (c d:Nat) (xs ys:List Int) (g:Nat) (w:World) (hx:Kd.C (Kd.int .i64) w A xs.length xs) (hc:xs.length≤c) (hy:Kd.C (Kd.int .i64) w B ys.length ys) (hd:ys.length≤d) (hg:w.cell? ⟨g,0,none⟩=some (.slice A xs.length c)) :
  Calls Try.prog 24 #[.slice B ys.length d,.pointer (some ⟨g,0,none⟩)] w fun e w'=>e = .returned (.bool (decide (xs=ys)))∧Below w.heap.size w w':=by
 obtain ⟨k,hk⟩:=Evt.get (slEq_ev xs ys hx.2.1)
 have HK:=zk hk
 have HX:=zk hx
 have HC:=zk hc
 have HY:=zk hy
 have HD:=zk hd
 generalize decide (xs=ys)=r at HK ⊢
 clear hk hx hc hy hd
 go_enter Try.func24,Try.ntmps24
 go_wp2_with (go_at_call 25;refine (slices_Equal_int_int.calls k _ _ xs _ _ ys _ _ HX.out HC.out HY.out HD.out HK.out).mono ?_;rintro e w' ⟨rfl,⟨nd,rfl⟩⟩)
 go_ret
 exact ⟨rfl,(Drawn0.step (Drawn0.refl _) _).below⟩
set_option maxHeartbeats 2000000 in
theorem number_of (A B:Option Addr) (c d:Nat) (xs:List Int) (P:List (List Int)) (g:Nat) (w:World) (hx:Kd.C (Kd.int .i64) w A xs.length xs) (hc:xs.length≤c) (hP:Kd.C (Kd.slice 3 (Kd.int .i64)) w B P.length P) (hg:w.cell? ⟨g,0,none⟩=some (.slice B P.length d)) :
  Calls Try.prog 22 #[.slice A xs.length c,.pointer (some ⟨g,0,none⟩)] w fun e w'=>e = .returned (.int .i64 (numOf P xs))∧Below w.heap.size w w':=by
 have HX:=zk hx
 have HC:=zk hc
 have HP:=zk hP
 have key:Aside0 (∀ (q:Nat) (W:World),Below w.heap.size w W→W.cell? ⟨q,0,none⟩=some (.slice A xs.length c)→Calls Try.prog 23 #[.slice B P.length d,.func (.func 24) #[] #[.pointer (some ⟨q,0,none⟩)]] W fun e W'=>e = .returned (.int .i64 (numOf P xs))∧Below W.heap.size W W'):=by
  constructor
  intro q W hb hq
  refine idx_rows (fun i=>decide (xs=P.getD i [])) 24 #[.pointer (some ⟨q,0,none⟩)] (enters_of Try.func24 (by kernel_rfl) rfl) B P.length d W HP.out.2.1 ?_
  intro i hi
  obtain ⟨ad,A',c',row,e,hcell,hle,hC,he⟩:=at_rows (Kd.C_below HP.out hb) (i:Int) (by omega) (by omega)
  have he:=he.out
  rw [Int.toNat_natCast] at he hcell
  subst he
  refine ⟨ad,_,e,hcell,fun W' hb' => ?_⟩
  exact num_eq A A' c c' xs _ q W' (Kd.C_below (Kd.C_below HX.out hb) hb') HC.out (Kd.C_below hC hb') hle (pw_cell_below hb' hq)
 generalize numOf P xs=r at key ⊢
 have hga:∀ o:Obj,(w.alloc o).cell? ⟨g,0,none⟩=some (.slice B P.length d):=fun o=>pw_cell_below (below_alloc (Below.refl _ _) o) hg
 clear hx hc hP
 go_enter Try.func22,Try.ntmps22
 go_wp2_with (go_at_call 23;refine (key.out w.heap.size _ (by repeat (first|exact Below.refl _ _|apply below_alloc|apply pw_below_drewN|apply below_drew1)) (by go_simp)).mono ?_;rintro e w2 ⟨rfl,hb⟩;have HB:=zk (show Below w.heap.size w w2 from below_step (by repeat (first|exact Below.refl _ _|apply below_alloc|apply pw_below_drewN|apply below_drew1)) hb);clear hb)
 go_ret
 exact ⟨rfl,HB.out⟩
end Go.Proofs.Ythkbgoohiinmbaa.Ext
namespace Go.Proofs.Ythkbgoohiinmbaa.Ext
open Go.RowKit YthkbgoohiinmbaaW.PrintWords YthkbgoohiinmbaaW.PrintLast Ythkbgoohiinmbaa.A
abbrev kRw : Kd (List Int) := Kd.slice 3 (Kd.int .i64)
end Go.Proofs.Ythkbgoohiinmbaa.Ext
namespace Go.Proofs.Ythkbgoohiinmbaa.Ext
open Go.RowKit YthkbgoohiinmbaaW.PrintWords YthkbgoohiinmbaaW.PrintLast YthkbgoohiinmbaaW.PrintMore Ythkbgoohiinmbaa.A
theorem goesC_ {P : Program} {ops : Array Oper} {Q : Exit → Act → World → Prop} {oi : Oper} {N : Option Tmp} {a : Act} {w : World} {K : Act → World → Prop} {f : FuncId} {fn : Func} {as_ : Array Operand} {ts : Array TypeId} {c : Operand} (lb : Array Value) (hf : P.funcs[f]? = some fn) (hname : (fn.name == "runtime.NumGoroutine") = false) (hb : fn.body.isSome = true) (args : Array Value)
  (hw:Region.wanted oi (yielded ops a.tmps)=true) (hN:oi.dst=N) (hop:oi.op = .call { callee:=.value c,args:=as_,argTypes:=ts }) (hc:a.eval c = .func (.func f) #[] lb) (hargs:as_.map a.eval=args) (all:Array Value) (hall:args ++ lb=all)
  (h:Calls P f all w fun e w'=>∃ v,e = .returned v∧K (a.put N v) w'):if Region.wanted oi (yielded ops a.tmps)=true then Oper.wp P oi a w K Q else K (a.put N undef) w:=by
 subst hall
 refine call_ f (args ++ lb) hw hN ?_ h
 have he:=enters_ hf hname hb (args ++ lb) w
 unfold execOp
 rw [hop]
 simp [hc,resolve,Deferred.ofValue,invoke,hargs,he]
theorem sr_ne {W:World} {b b':Nat} {ok ok':Nat→Prop} {v u:Value} {P:List (List Int)} {L:List Int} (hs:Kd.S kRw 29 W b ok v P) (hr:Kd.R (Kd.int .i64) 3 W b' ok' u L) (k:Nat) (h:some k=u.ownBlock):some k ≠ v.ownBlock:=fun h2=>by
 obtain ⟨x1,e1⟩:=Kd.S_typed hs k h2.symm
 obtain ⟨x2,e2⟩:=Kd.R_typed hr k h.symm
 rw [e1] at e2
 simp at e2
theorem r_stay {W W2:World} {b b':Nat} {ok:Nat→Prop} {v u:Value} {P:List (List Int)} {L:List Int} (hs:Kd.S kRw 29 W b ok v P) (hr:Kd.R (Kd.int .i64) 3 W b' (fun k=>some k=u.ownBlock) u L) (hg:W.grownBy W2 v.ownBlock):Kd.R (Kd.int .i64) 3 W2 b' (fun k=>some k=u.ownBlock) u L :=
 Kd.R_step hr (fun k hk hlt=>hg.block k hlt (sr_ne hs hr k hk))
abbrev BmR := List (List Int) × List Int × List (List Int) × Bool
mutual
def impl_BuildMonoid.l1:Nat→List (List Int)→List (List Int)→List Int→Int→Option BmR
 | 0,_,_,_,_=>none
 | k+1,X,P,L,i=>if i < (P.length:Int) then impl_BuildMonoid.l2 k X P L i 0 else impl_BuildMonoid.l5 k P L [] 0
def impl_BuildMonoid.l2:Nat→List (List Int)→List (List Int)→List Int→Int→Int→Option BmR
 | 0,_,_,_,_,_=>none
 | k+1,X,P,L,i,kk=>if kk < 3 then (if 0≤i then (if i < (P.length:Int) then impl_BuildMonoid.l3 k X P L i kk [] (rd_L3 P i) 0 else none) else none) else impl_BuildMonoid.l1 k X P L (wrap64 (i+1))
def impl_BuildMonoid.l3:Nat→List (List Int)→List (List Int)→List Int→Int→Int→List Int→List Int→Int→Option BmR
 | 0,_,_,_,_,_,_,_,_=>none
 | k+1,X,P,L,i,kk,next,row,j=>if j < (row.length:Int) then (if 0≤j then (if 0≤rd row j then (if rd row j < (X.length:Int) then (if 0≤kk then (if kk < ((rd_L3 X (rd row j)).length:Int) then (if next.length < 1000000 then impl_BuildMonoid.l3 k X P L i kk (next ++ [rd (rd_L3 X (rd row j)) kk]) row (wrap64 (j+1)) else none) else none) else none) else none) else none) else none)
  else if numOf P next < 0 then (if P.length < 1000000 then (if ((P.length+1:Nat):Int) > 30 then some ([],[],[],false) else if i=0 then (if L.length < 1000000 then impl_BuildMonoid.l2 k X (P ++ [next]) (L ++ [numOf (P ++ [next]) next]) i (wrap64 (kk+1)) else none) else impl_BuildMonoid.l2 k X (P ++ [next]) L i (wrap64 (kk+1))) else none)
  else if i=0 then (if L.length < 1000000 then impl_BuildMonoid.l2 k X P (L ++ [numOf P next]) i (wrap64 (kk+1)) else none) else impl_BuildMonoid.l2 k X P L i (wrap64 (kk+1))
def impl_BuildMonoid.l5:Nat→List (List Int)→List Int→List (List Int)→Int→Option BmR
 | 0,_,_,_,_=>none
 | k+1,P,L,D,a=>if a < (P.length:Int) then (if 0≤a then impl_BuildMonoid.l6 k P L D a (rd_L3 P a) [] 0 else none) else some (P,L,D,true)
def impl_BuildMonoid.l6:Nat→List (List Int)→List Int→List (List Int)→Int→List Int→List Int→Int→Option BmR
 | 0,_,_,_,_,_,_,_=>none
 | k+1,P,L,D,a,x,row,b=>if b < (P.length:Int) then (if 0≤b then impl_BuildMonoid.l7 k P L D a x row b (rd_L3 P b) [] 0 else none) else (if D.length < 1000000 then impl_BuildMonoid.l5 k P L (D ++ [row]) (wrap64 (a+1)) else none)
def impl_BuildMonoid.l7:Nat→List (List Int)→List Int→List (List Int)→Int→List Int→List Int→Int→List Int→List Int→Int→Option BmR
 | 0,_,_,_,_,_,_,_,_,_,_=>none
 | k+1,P,L,D,a,x,row,b,y,both,c=>if c < (x.length:Int) then (if 0≤c then (if 0≤rd x c then (if rd x c < (y.length:Int) then (if both.length < 1000000 then impl_BuildMonoid.l7 k P L D a x row b y (both ++ [rd y (rd x c)]) (wrap64 (c+1)) else none) else none) else none) else none) else (if row.length < 1000000 then impl_BuildMonoid.l6 k P L D a x (row ++ [numOf P both]) (wrap64 (b+1)) else none)
end
def impl_BuildMonoid.l0:Nat→Int→List (List Int)→List Int→Int→Option BmR
 | 0,_,_,_,_=>none
 | k+1,n,X,first,i=>if i < n then (if first.length < 1000000 then impl_BuildMonoid.l0 k n X (first ++ [i]) (wrap64 (i+1)) else none) else impl_BuildMonoid.l1 k X [first] [] 0
def impl_BuildMonoid.f (k:Nat) (l0:List Bool) (l1:List (List Int)):Option BmR:=if dfaB l0 l1=true then impl_BuildMonoid.l0 k (l0.length:Int) l1 [] 0 else some ([],[],[],false)
theorem build_monoid (k:Nat) (A0:Option Addr) (c0:Nat) (l0:List Bool) (A1:Option Addr) (c1:Nat) (l1:List (List Int)) (r1:List (List Int)) (r2:List Int) (r3:List (List Int)) (r4:Bool) (w:World)
  (hr0:Kd.C Kd.bool w A0 l0.length l0) (hc0:l0.length≤c0) (hr1:Kd.C kRw w A1 l1.length l1) (hc1:l1.length≤c1) (h:impl_BuildMonoid.f k l0 l1=some (r1,r2,r3,r4)) :
  Calls Try.prog 6 #[.agg #[.slice A0 l0.length c0,.slice A1 l1.length c1]] w fun e w'=>∃ (v0 v1 v2:Value) (P0 P1 P2:Nat→Prop),e = .returned (.tuple #[.agg #[v0,v1,v2],.bool r4]) ∧
   Kd.S kRw 29 w' w.heap.size P0 v0 r1∧Kd.R (Kd.int .i64) 3 w' w.heap.size P1 v1 r2∧Kd.S kRw 29 w' w.heap.size P2 v2 r3∧(∀ k,P0 k→¬ P1 k∧¬ P2 k)∧(∀ k,P1 k→¬ P2 k)∧(∀ k,P0 k∨P1 k∨P2 k→w.heap.size≤k∧k < w'.heap.size)∧Below w.heap.size w w':=by
 have hu49:=Try.underlying27
 have hu34:=Try.underlying31
 have HR0:=zk hr0
 have HC0:=zk hc0
 have HR1:=zk hr1
 have HC1:=zk hc1
 have HB0:=zk (Below.refl w.heap.size w)
 clear hr0 hc0 hr1 hc1
 unfold impl_BuildMonoid.f at h
 by_cases hd:dfaB l0 l1=true
 ·rw [if_pos hd] at h
  have HV:=zk (show impl_IsValidDfa.f l0 l1=some true by rw [← hd];rfl)
  have H':=zk h
  clear h hd
  go_enter Try.func6,Try.ntmps6
  go_wp2_with (first
   | ((with_reducible refine gate_dst (N:=1) rfl ?_);refine zE (cs:=#[.slice A0 l0.length c0,.slice A1 l1.length c1]) (t:=27) ?_;intro gX hgX wX hbX hb;have HB1:=zk (below_step HB0.out hb);have BX:=zk hbX;have GX:=zk (show w.heap.size≤gX by rw [hgX];exact Nat.le_refl _);clear hbX hb hgX)
   | ((with_reducible refine gate_dst (N:=2) rfl ?_);refine zE (cs:=#[.slice none 0 0,.slice none 0 0,.slice none 0 0]) (t:=31) ?_;intro gR hgR wR hbR hb;have HB2:=zk (below_step HB1.out hb);have BX1:=zk (blk_below BX.out hb);have BR:=zk hbR;have GR:=zk (show w.heap.size≤gR by rw [hgR];exact below_size HB1.out);clear hbR hb hgR BX HB1;have hz0:wR.cell? ⟨gX,0,none⟩=some (.slice A0 l0.length c0):=(blk_cell BX1.out 0).trans rfl;have hf0:=blk_frozen BX1.out 0;have hz1:wR.cell? ⟨gX,1,none⟩=some (.slice A1 l1.length c1):=(blk_cell BX1.out 1).trans rfl;have hf1:=blk_frozen BX1.out 1)
   | (go_at_call 21;(with_reducible refine (impl_IsValidDfa.calls _ _ l0 _ _ l1 true _ ?s1 ?s2 ?s3 ?s4 HV.out).mono ?_);(case s1=>exact Kd.C_below HR0.out HB2.out);(case s2=>exact HC0.out);(case s3=>exact Kd.C_below HR1.out HB2.out);(case s4=>exact HC1.out);rintro e w3 ⟨rfl,hb⟩;have HB3:=zk (below_step HB2.out hb);have BX2:=zk (blk_below BX1.out hb);have BR1:=zk (blk_below BR.out hb);clear hb hz0 hf0 hz1 hf1 BX1 BR HB2)
   | ((with_reducible refine gate_dst (N:=25) rfl ?_);refine Kd.R_lit (Kd.int .i64) _ 3 ?hg (N:=25) ?hd (xs:=([]:List Int)) (inner:=[]) (ok:=fun _=>True) (okp:=fun _=>True) ?hr ?hp (fun _ hk=>hk) trivial (Below.refl _ _) (Nat.le_refl _) (by simp) ?_;(case hd=>rfl);(case hg=>rfl);(case hr=>first|(go_simp;done)|(go_simp;rfl));(case hp=>exact Reps.none _ _);intro v25 w4 ho hb hg_ hnew_;clear hg_ hnew_;have HB4:=zk (below_step HB3.out hb);have BX3:=zk (blk_below BX2.out hb);have BR2:=zk (blk_below BR1.out hb);have HF:=zk (Kd.R_lower ho HB3.out.size);clear ho hb BX2 BR1 HB3;have hz2:w4.cell? ⟨gX,0,none⟩=some (.slice A0 l0.length c0):=(blk_cell BX3.out 0).trans rfl;have hf2:=blk_frozen BX3.out 0))
  first|go_loopg [4,29] k (fun kq v4 v29 w'=>∃ (first:List Int) (i:Int),v29 = .int .i64 i∧Aside0 (impl_BuildMonoid.l0 kq (l0.length:Int) l1 first i=some (r1,r2,r3,r4))∧Aside0 (kq≤k)∧Aside0 (Kd.R (Kd.int .i64) 3 w' w.heap.size (fun _=>True) v4 first)∧Aside0 (Below w.heap.size w w')∧Aside0 (w'.heap[gX]? = some (.cells #[.slice A0 l0.length c0,.slice A1 l1.length c1] 27 (0,0)))∧Aside0 (w'.heap[gR]? = some (.cells #[.slice none 0 0,.slice none 0 0,.slice none 0 0] 31 (0,0))))|(simp only [Act.put,zt,zv,zu];go_loopg [4,29] k (fun kq v4 v29 w'=>∃ (first:List Int) (i:Int),v29 = .int .i64 i∧Aside0 (impl_BuildMonoid.l0 kq (l0.length:Int) l1 first i=some (r1,r2,r3,r4))∧Aside0 (kq≤k)∧Aside0 (Kd.R (Kd.int .i64) 3 w' w.heap.size (fun _=>True) v4 first)∧Aside0 (Below w.heap.size w w')∧Aside0 (w'.heap[gX]? = some (.cells #[.slice A0 l0.length c0,.slice A1 l1.length c1] 27 (0,0)))∧Aside0 (w'.heap[gR]? = some (.cells #[.slice none 0 0,.slice none 0 0,.slice none 0 0] 31 (0,0)))))
  case atStart=>exact ⟨[],0,rfl,H',⟨Nat.le_refl _⟩,HF,HB4,BX3,BR2⟩
  case round =>
   clear H' HF HB4 BX3 BR2 hz2 hf2
   obtain ⟨first,i,rfl,HA,HK,HF,HB,BX,BR⟩:=hrel
   cases gk with
   | zero =>
    exact absurd HA.out (by simp [impl_BuildMonoid.l0])
   | succ k1 =>
    have H:=HA.out
    clear HA
    simp only [impl_BuildMonoid.l0] at H
    by_cases c1:i < (l0.length:Int)
    ·rw [if_pos c1] at H
     by_cases c2:first.length < 1000000
     ·rw [if_pos c2] at H
      have H':=zk H
      have LM:=zk c2
      clear H c2
      have c1b0:decide (i < (l0.length:Int))=true:=decide_eq_true c1
      clear c1
      go_wp2_with (first
       | ((with_reducible refine gate_builtin (b:=.append) (xs:=#[.tmp 32,.tmp 34]) rfl ?_);at_builtin;refine Kd.R_append (Kd.int .i64) (w0:=w) w.heap.size rfl (.tmp 32) (.tmp 34) 29 3 (.int .i64 0) 8 rfl Try.underlying29 info3 rfl (by decide) (by omega) u4 first i [.int .i64 i] (fun _=>True) (fun k_=>False) rfl rfl ?aP (fun _ hk=>hk.elim) (fun _ _=>trivial) ?aO ?aB ?aS ?aL ?_;(case aP=>exact rfl);(case aO=>exact HF.out);(case aB=>exact HB.out);(case aS=>exact HB.out.size);(case aL=>have:=LM.out;omega);intro v35 w5 ho hb hg hat;have HF':=zk ho;have HB':=zk hb;have BX':=zk (blk_grown BX.out hg (Kd.R_ne HF.out BX.out (by decide)));have BR':=zk (blk_grown BR.out hg (Kd.R_ne HF.out BR.out (by decide)));clear ho hb hg hat HF HB BX BR))
      go_roundg k1
      case measure=>have:=HK.out;omega
      case rel=>exact ⟨first ++ [i],wrap64 (i+1),rfl,H',⟨by have:=HK.out;omega⟩,HF',HB',BX',BR'⟩
     ·rw [if_neg c2] at H
      exact absurd H (by simp)
    ·rw [if_neg c1] at H
     have H':=zk H
     clear H
     have c1b0:decide (i < (l0.length:Int))=false:=decide_eq_false c1
     clear c1
     obtain ⟨A4,c4,e4⟩:=Kd.R_slice HF.out
     subst e4
     go_wp2_with (first
      | ((with_reducible refine gate_dst (N:=38) rfl ?_);refine Kd.S_lits kRw (w0:=w) w.heap.size 29 ?hg (N:=38) ?hd (xs:=([first]:List (List Int))) (inner:=[.slice A4 first.length c4]) (ok:=fun k_=>some k_ ≠ (Value.slice none 0 0).ownBlock) (fun j k_=>j=0) ?hr rfl ?hp (fun i j k_ h1 h2=>h1.trans h2.symm) (fun _ k_ _=>za109) za109 HB.out HB.out.size (by simp) ?_;(case hd=>rfl);(case hg=>rfl);(case hr=>first|(go_simp;done)|(go_simp;rfl));(case hp=>intro j x hj;rcases j with _|j;(· simp only [List.getElem?_cons_zero,Option.some.injEq] at hj;subst hj;exact ⟨_,rfl,Kd.R_mono HF.out (fun _ _=>rfl)⟩);(· simp at hj));intro v38 w6 hs hb hg hn;have HS1:=zk hs;have HB1:=zk hb;have BX1:=zk (blk_grown BX.out hg (by simp));have BR1:=zk (blk_grown BR.out hg (by simp));clear hs hb hg hn;obtain ⟨A5,c5,e5⟩:=Kd.S_slice HS1.out;subst e5)
      | ((with_reducible refine gate_dst (N:=6) rfl ?_);refine zE (cs:=#[.slice none 0 0,.slice none 0 0,.slice none 0 0]) (t:=31) ?_;intro gM hgM w7 hbM hb;have HB2:=zk (below_step HB1.out hb);have BX2:=zk (blk_below BX1.out hb);have BR2:=zk (blk_below BR1.out hb);have HS2:=zk (Kd.S_below HS1.out hb);have BM:=zk hbM;have GM:=zk (show w.heap.size≤gM by rw [hgM];exact below_size HB1.out);have NXM:=zk (show gX ≠ gM by rw [hgM];exact Nat.ne_of_lt (blk_lt BX1.out));have NRM:=zk (show gR ≠ gM by rw [hgM];exact Nat.ne_of_lt (blk_lt BR1.out));clear hbM hb hgM BX1 BR1 HS1 HB1 HB BX BR HF;have hz3:w7.cell? ⟨gM,0,none⟩=some (.slice none 0 0):=(blk_cell BM.out 0).trans rfl;have hf3:=blk_frozen BM.out 0;have hz4:w7.cell? ⟨gM,1,none⟩=some (.slice none 0 0):=(blk_cell BM.out 1).trans rfl;have hf4:=blk_frozen BM.out 1;have hz5:w7.cell? ⟨gM,2,none⟩=some (.slice none 0 0):=(blk_cell BM.out 2).trans rfl;have hf5:=blk_frozen BM.out 2))
     have BM1:=zk (blk_put (cs:=#[.slice none 0 0,.slice none 0 0,.slice none 0 0]) BM.out 0 (.slice A5 [first].length c5) rfl)
     have BM2:=zk (blk_put (cs:=#[.slice A5 [first].length c5,.slice none 0 0,.slice none 0 0]) BM1.out 1 (.slice none 0 0) rfl)
     have BM3:=zk (blk_put (cs:=#[.slice A5 [first].length c5,.slice none 0 0,.slice none 0 0]) BM2.out 2 (.slice none 0 0) rfl)
     have HS3:=zk (Kd.S_set (Kd.S_set (Kd.S_set HS2.out BM.out (by decide) 0 (.slice A5 [first].length c5)) BM1.out (by decide) 1 (.slice none 0 0)) BM2.out (by decide) 2 (.slice none 0 0))
     have BX3:=zk (blk_far (blk_far (blk_far BX2.out NXM.out (.slice A5 [first].length c5) (p:=⟨gM,0,none⟩)) NXM.out (.slice none 0 0) (p:=⟨gM,1,none⟩)) NXM.out (.slice none 0 0) (p:=⟨gM,2,none⟩))
     have BR3:=zk (blk_far (blk_far (blk_far BR2.out NRM.out (.slice A5 [first].length c5) (p:=⟨gM,0,none⟩)) NRM.out (.slice none 0 0) (p:=⟨gM,1,none⟩)) NRM.out (.slice none 0 0) (p:=⟨gM,2,none⟩))
     have HB3:=zk (below_set (below_set (below_set HB2.out GM.out (j:=0) (v:=.slice A5 [first].length c5)) GM.out (j:=1) (v:=.slice none 0 0)) GM.out (j:=2) (v:=.slice none 0 0))
     clear HS2 BX2 BR2 HB2 BM BM1 BM2
     first|go_loopg [8] k1 (fun kq v8 w'=>∃ (P:List (List Int)) (L:List Int) (i:Int) (vM vL:Value),v8 = .int .i64 i∧Aside0 (impl_BuildMonoid.l1 kq l1 P L i=some (r1,r2,r3,r4))∧Aside0 (kq≤k1)∧Aside0 (Kd.S kRw 29 w' w.heap.size (fun k_=>some k_ ≠ (vL:Value).ownBlock) vM P)∧Aside0 (Kd.R (Kd.int .i64) 3 w' w.heap.size (fun k_=>some k_=(vL:Value).ownBlock) vL L)∧Aside0 (w'.heap[gM]? = some (.cells #[vM,vL,.slice none 0 0] 31 (0,0)))∧Aside0 (w'.heap[gX]? = some (.cells #[.slice A0 l0.length c0,.slice A1 l1.length c1] 27 (0,0)))∧Aside0 (w'.heap[gR]? = some (.cells #[.slice none 0 0,.slice none 0 0,.slice none 0 0] 31 (0,0)))∧Aside0 (Below w.heap.size w w'))|(simp only [Act.put,zt,zv,zu];go_loopg [8] k1 (fun kq v8 w'=>∃ (P:List (List Int)) (L:List Int) (i:Int) (vM vL:Value),v8 = .int .i64 i∧Aside0 (impl_BuildMonoid.l1 kq l1 P L i=some (r1,r2,r3,r4))∧Aside0 (kq≤k1)∧Aside0 (Kd.S kRw 29 w' w.heap.size (fun k_=>some k_ ≠ (vL:Value).ownBlock) vM P)∧Aside0 (Kd.R (Kd.int .i64) 3 w' w.heap.size (fun k_=>some k_=(vL:Value).ownBlock) vL L)∧Aside0 (w'.heap[gM]? = some (.cells #[vM,vL,.slice none 0 0] 31 (0,0)))∧Aside0 (w'.heap[gX]? = some (.cells #[.slice A0 l0.length c0,.slice A1 l1.length c1] 27 (0,0)))∧Aside0 (w'.heap[gR]? = some (.cells #[.slice none 0 0,.slice none 0 0,.slice none 0 0] 31 (0,0)))∧Aside0 (Below w.heap.size w w')))
     case atStart=>exact ⟨[first],[],0,_,_,rfl,H',⟨Nat.le_refl _⟩,HS3,⟨Kd.R_nil _ _ _ _ _⟩,BM3,BX3,BR3,HB3⟩
     case round =>
      clear H' HS3 BM3 BX3 BR3 HB3 hz3 hf3 hz4 hf4 hz5 hf5
      obtain ⟨P,L,i,vM,vL,rfl,HA,HK2,HS,HL,BM,BX,BR,HB⟩:=hrel
      cases gk with
      | zero =>
       exact absurd HA.out (by simp [impl_BuildMonoid.l1])
      | succ k2 =>
       have H:=HA.out
       clear HA
       simp only [impl_BuildMonoid.l1] at H
       obtain ⟨AM,cM,eM⟩:=Kd.S_slice HS.out
       subst eM
       have hz0:wr.cell? ⟨gM,0,none⟩=some (.slice AM P.length cM):=(blk_cell BM.out 0).trans rfl
       have hf0:=blk_frozen BM.out 0
       by_cases c1:i < (P.length:Int)
       ·rw [if_pos c1] at H
        have H':=zk H
        clear H
        have c1b0:decide (i < (P.length:Int))=true:=decide_eq_true c1
        clear c1
        go_wp2
        first|go_loopg [48] k2 (fun kq v48 w'=>∃ (P:List (List Int)) (L:List Int) (kk:Int) (vM vL:Value),v48 = .int .i64 kk∧Aside0 (impl_BuildMonoid.l2 kq l1 P L i kk=some (r1,r2,r3,r4))∧Aside0 (kq≤k2)∧Aside0 (Kd.S kRw 29 w' w.heap.size (fun k_=>some k_ ≠ (vL:Value).ownBlock) vM P)∧Aside0 (Kd.R (Kd.int .i64) 3 w' w.heap.size (fun k_=>some k_=(vL:Value).ownBlock) vL L)∧Aside0 (w'.heap[gM]? = some (.cells #[vM,vL,.slice none 0 0] 31 (0,0)))∧Aside0 (w'.heap[gX]? = some (.cells #[.slice A0 l0.length c0,.slice A1 l1.length c1] 27 (0,0)))∧Aside0 (w'.heap[gR]? = some (.cells #[.slice none 0 0,.slice none 0 0,.slice none 0 0] 31 (0,0)))∧Aside0 (Below w.heap.size w w'))|(simp only [Act.put,zt,zv,zu];go_loopg [48] k2 (fun kq v48 w'=>∃ (P:List (List Int)) (L:List Int) (kk:Int) (vM vL:Value),v48 = .int .i64 kk∧Aside0 (impl_BuildMonoid.l2 kq l1 P L i kk=some (r1,r2,r3,r4))∧Aside0 (kq≤k2)∧Aside0 (Kd.S kRw 29 w' w.heap.size (fun k_=>some k_ ≠ (vL:Value).ownBlock) vM P)∧Aside0 (Kd.R (Kd.int .i64) 3 w' w.heap.size (fun k_=>some k_=(vL:Value).ownBlock) vL L)∧Aside0 (w'.heap[gM]? = some (.cells #[vM,vL,.slice none 0 0] 31 (0,0)))∧Aside0 (w'.heap[gX]? = some (.cells #[.slice A0 l0.length c0,.slice A1 l1.length c1] 27 (0,0)))∧Aside0 (w'.heap[gR]? = some (.cells #[.slice none 0 0,.slice none 0 0,.slice none 0 0] 31 (0,0)))∧Aside0 (Below w.heap.size w w')))
        case atStart=>exact ⟨P,L,0,_,vL,rfl,H',⟨Nat.le_refl _⟩,HS,HL,BM,BX,BR,HB⟩
        case round =>
         clear H' HS HL BM BX BR HB hz0 hf0 c1b0
         obtain ⟨P,L,kk,vM,vL,rfl,HA,HK3,HS,HL,BM,BX,BR,HB⟩:=hrel
         cases gk with
         | zero =>
          exact absurd HA.out (by simp [impl_BuildMonoid.l2])
         | succ k3 =>
          have H:=HA.out
          clear HA
          simp only [impl_BuildMonoid.l2] at H
          by_cases c2:kk < 3
          ·rw [if_pos c2] at H
           have c2b0:decide (kk < 3)=true:=decide_eq_true c2
           clear c2
           by_cases c3:0≤i
           ·rw [if_pos c3] at H
            by_cases c4:i < (P.length:Int)
            ·rw [if_pos c4] at H
             have H':=zk H
             clear H
             obtain ⟨wa,rfl⟩:∃ x,x=wr:=⟨wr,rfl⟩
             obtain ⟨AM,cM,eM⟩:=Kd.S_slice HS.out
             subst eM
             obtain ⟨ad,Ar,cr,eA,hx,hl,hC⟩:=at_L3 (Kd.S_reads' HS.out).2.2 i c3 c4
             cases eA
             have HC:=zk hC
             have HLr:=zk hl
             have HX:=zk hx
             have Q3:=zk c3
             have Q4:=zk c4
             clear hC hl hx
             replace c3:=eq_true c3
             replace c4:=eq_true c4
             go_wp2_with (first
              | ((with_reducible refine gate_dst (N:=51) rfl ?_);refine Kd.R_lit (Kd.int .i64) _ 3 ?hg (N:=51) ?hd (xs:=([]:List Int)) (inner:=[]) (ok:=fun _=>True) (okp:=fun _=>True) ?hr ?hp (fun _ hk=>hk) trivial (Below.refl _ _) (Nat.le_refl _) (by simp) ?_;(case hd=>rfl);(case hg=>rfl);(case hr=>first|(go_simp;done)|(go_simp;rfl));(case hp=>exact Reps.none _ _);intro v51 w8 ho hb hg_ hnew_;clear hg_ hnew_;have HN:=zk ho;have HW:=zk hb;have hz1:w8.cell? ⟨gM,0,none⟩=some (.slice (some ad) P.length cM):=(blk_cell (blk_below BM.out hb) 0).trans rfl;have hf1:=blk_frozen (blk_below BM.out hb) 0;have hz2:w8.cell? (ad.add i.toNat)=some (.slice Ar (rd_L3 P i).length cr):=(hb.cell (World.block_lt_of_cell? wa _ HX.out)).trans HX.out;clear ho hb))
             first|go_loopg [10,58] k3 (fun kq v10 v58 w'=>∃ (next:List Int) (j:Int),v58 = .int .i64 j∧Aside0 (impl_BuildMonoid.l3 kq l1 P L i kk next (rd_L3 P i) j=some (r1,r2,r3,r4))∧Aside0 (kq≤k3)∧Aside0 (Kd.R (Kd.int .i64) 3 w' wa.heap.size (fun _=>True) v10 next)∧Aside0 (Below wa.heap.size wa w'))|(simp only [Act.put,zt,zv,zu];go_loopg [10,58] k3 (fun kq v10 v58 w'=>∃ (next:List Int) (j:Int),v58 = .int .i64 j∧Aside0 (impl_BuildMonoid.l3 kq l1 P L i kk next (rd_L3 P i) j=some (r1,r2,r3,r4))∧Aside0 (kq≤k3)∧Aside0 (Kd.R (Kd.int .i64) 3 w' wa.heap.size (fun _=>True) v10 next)∧Aside0 (Below wa.heap.size wa w')))
             case atStart=>exact ⟨[],0,rfl,H',⟨Nat.le_refl _⟩,HN,HW⟩
             case round =>
              clear H' HN HW hz1 hf1 hz2
              obtain ⟨next,j,rfl,HA,HK4,HN,HW⟩:=hrel
              cases gk with
              | zero =>
               exact absurd HA.out (by simp [impl_BuildMonoid.l3])
              | succ k4 =>
               have H:=HA.out
               clear HA
               simp only [impl_BuildMonoid.l3] at H
               by_cases d1:j < ((rd_L3 P i).length:Int)
               ·rw [if_pos d1] at H
                by_cases d2:0≤j
                ·rw [if_pos d2] at H
                 by_cases d3:0≤rd (rd_L3 P i) j
                 ·rw [if_pos d3] at H
                  by_cases d4:rd (rd_L3 P i) j < (l1.length:Int)
                  ·rw [if_pos d4] at H
                   by_cases d5:0≤kk
                   ·rw [if_pos d5] at H
                    by_cases d6:kk < ((rd_L3 l1 (rd (rd_L3 P i) j)).length:Int)
                    ·rw [if_pos d6] at H
                     by_cases d7:next.length < 1000000
                     ·rw [if_pos d7] at H
                      have H':=zk H
                      have LM:=zk d7
                      clear H d7
                      have HBw:=zk (below_step HB.out HW.out)
                      obtain ⟨ar,er,hx1⟩:=Kd.at_int (Kd.C_below HC.out HW.out) j d2 d1
                      cases er
                      obtain ⟨ax,Ay,cy,ex,hx2,hl2,hC2⟩:=at_L3 (Kd.C_below HR1.out HBw.out) (rd (rd_L3 P i) j) d3 d4
                      cases ex
                      obtain ⟨ay,ey,hx3⟩:=Kd.at_int hC2 kk d5 d6
                      cases ey
                      have hz3:wr.cell? ⟨gX,1,none⟩=some (.slice (some ax) l1.length c1):=(blk_cell (blk_below BX.out HW.out) 1).trans rfl
                      have hf3:=blk_frozen (blk_below BX.out HW.out) 1
                      have d1b0:decide (j < ((rd_L3 P i).length:Int))=true:=decide_eq_true d1
                      replace d1:=eq_true d1
                      replace d2:=eq_true d2
                      replace d3:=eq_true d3
                      replace d4:=eq_true d4
                      replace d5:=eq_true d5
                      replace d6:=eq_true d6
                      go_wp2_with (first
                       | ((with_reducible refine gate_builtin (b:=.append) (xs:=#[.tmp 62,.tmp 71]) rfl ?_);at_builtin;refine Kd.R_append (Kd.int .i64) (w0:=wa) wa.heap.size rfl (.tmp 62) (.tmp 71) 29 3 (.int .i64 0) 8 rfl Try.underlying29 info3 rfl (by decide) (by omega) u10 next (rd (rd_L3 l1 (rd (rd_L3 P i) j)) kk) [.int .i64 (rd (rd_L3 l1 (rd (rd_L3 P i) j)) kk)] (fun _=>True) (fun k_=>False) rfl rfl ?aP (fun _ hk=>hk.elim) (fun _ _=>trivial) ?aO ?aB ?aS ?aL ?_;(case aP=>exact rfl);(case aO=>exact HN.out);(case aB=>exact HW.out);(case aS=>exact HW.out.size);(case aL=>have:=LM.out;omega);intro v72 w9 ho hb hg hat;have HN':=zk ho;have HW':=zk hb;clear ho hb hg hat))
                      go_roundg k4
                      case measure=>have:=HK4.out;omega
                      case rel=>exact ⟨next ++ [rd (rd_L3 l1 (rd (rd_L3 P i) j)) kk],wrap64 (j+1),rfl,H',⟨by have:=HK4.out;omega⟩,HN',HW'⟩
                     ·rw [if_neg d7] at H
                      exact absurd H (by simp)
                    ·rw [if_neg d6] at H
                     exact absurd H (by simp)
                   ·rw [if_neg d5] at H
                    exact absurd H (by simp)
                  ·rw [if_neg d4] at H
                   exact absurd H (by simp)
                 ·rw [if_neg d3] at H
                  exact absurd H (by simp)
                ·rw [if_neg d2] at H
                 exact absurd H (by simp)
               ·rw [if_neg d1] at H
                have d1b0:decide (j < ((rd_L3 P i).length:Int))=false:=decide_eq_false d1
                clear d1
                obtain ⟨An,cn,en⟩:=Kd.R_slice HN.out
                subst en
                by_cases d2:numOf P next < 0
                ·rw [if_pos d2] at H
                 have d2b0:decide (numOf P next < 0)=true:=decide_eq_true d2
                 clear d2
                 by_cases d3:P.length < 1000000
                 ·rw [if_pos d3] at H
                  have LM:=zk d3
                  clear d3
                  obtain ⟨P',eP⟩:∃ x,x=P ++ [next]:=⟨_,rfl⟩
                  have eL:((P.length+1:Nat):Int)=(P'.length:Int):=by rw [eP,List.length_append,List.length_singleton]
                  have EP:=zk eP
                  rw [eL,← eP] at H
                  clear eL eP
                  by_cases d4:(P'.length:Int) > 30
                  ·rw [if_pos d4] at H
                   obtain ⟨rfl,rfl,rfl,rfl⟩:r1 = []∧r2 = []∧r3 = []∧r4=false:=by
                    have h:=zi H
                    simp only [Prod.mk.injEq] at h
                    exact ⟨h.1.symm,h.2.1.symm,h.2.2.1.symm,h.2.2.2.symm⟩
                   clear H
                   have d4b0:decide ((P'.length:Int) > 30)=true:=decide_eq_true d4
                   have d4b1:decide (30 < (P'.length:Int))=true:=decide_eq_true d4
                   clear d4
                   go_wp2_with (first
                    | (go_at_call 22;(with_reducible refine (number_of An (some ad) cn cM next P gM _ ?s1 ?s2 ?s3 ?s4).mono ?_);(case s1=>exact (Kd.R_reads' HN.out).2.2);(case s2=>exact (Kd.R_reads' HN.out).2.1);(case s3=>exact Kd.C_below (Kd.S_reads' HS.out).2.2 HW.out);(case s4=>exact (blk_cell (blk_below BM.out HW.out) 0).trans rfl);rintro e w10 ⟨rfl,hb⟩;have HW1:=zk (below_step HW.out hb);have HN1:=zk (Kd.R_below HN.out hb);have hz1:w10.cell? ⟨gM,0,none⟩=some (.slice (some ad) P.length cM):=(blk_cell (blk_below BM.out HW1.out) 0).trans rfl;have hf1:=blk_frozen (blk_below BM.out HW1.out) 0;clear hb)
                    | ((with_reducible refine gate_builtin (b:=.append) (xs:=#[.tmp 79,.tmp 81]) rfl ?_);at_builtin;refine Kd.S_append kRw (w0:=w) w.heap.size rfl (.tmp 79) (.tmp 81) 25 29 (.slice none 0 0) 24 rfl Try.underlying25 info29 rfl (by decide) (by omega) (.slice (some ad) P.length cM) P next [.slice An next.length cn] (fun k_=>some k_ ≠ (vL:Value).ownBlock) (fun k_=>some k_=(.slice An next.length cn:Value).ownBlock) rfl rfl ?aP ?aK ?aF ?aO ?aB ?aS ?aL ?_;(case aP=>exact ⟨_,rfl,Kd.R_lower (Kd.R_tight rfl HN1.out) HB.out.size⟩);(case aK=>exact fun k_ hk=>⟨fun h2=>za107,fun h2=>za106⟩);(case aF=>exact fun k_ hk h2=>by have h3:=HW1.out.size;have h4:=Kd.R_lt HL.out k_ h2.symm;omega);(case aO=>exact Kd.S_mono (Kd.S_below (Kd.S_bound HS.out) HW1.out) (fun k_ hk=>⟨hk.1,fun h2=>by have h3:=Kd.R_base HN1.out k_ h2.symm;have h4:=hk.2.2.1;omega⟩));(case aB=>exact below_step HB.out HW1.out);(case aS=>exact (below_step HB.out HW1.out).size);(case aL=>have:=LM.out;omega);intro v82 w11 ho hb hg hat;rw [← EP.out] at ho;have HS1:=zk ho;have HB1:=zk hb;have HL1:=zk (r_stay (Kd.S_below HS.out HW1.out) (Kd.R_below HL.out HW1.out) hg);have BM1:=zk (blk_grown (blk_below BM.out HW1.out) hg (Kd.S_ne (Kd.S_below HS.out HW1.out) (blk_below BM.out HW1.out) (by decide)));have BX1:=zk (blk_grown (blk_below BX.out HW1.out) hg (Kd.S_ne (Kd.S_below HS.out HW1.out) (blk_below BX.out HW1.out) (by decide)));have BR1:=zk (blk_grown (blk_below BR.out HW1.out) hg (Kd.S_ne (Kd.S_below HS.out HW1.out) (blk_below BR.out HW1.out) (by decide)));have FN:=zk (Kd.F_grown (Kd.R_F (Kd.R_tight rfl HN1.out)) hg (fun k_ hk=>sr_ne (Kd.S_below HS.out HW1.out) HN1.out k_ hk));clear ho hb hg hat hz1 hf1;obtain ⟨A82,c82,e82⟩:=Kd.S_slice HS1.out;subst e82;have hz2:w11.cell? ⟨gM,0,none⟩=some (.slice (some ad) P.length cM):=(blk_cell BM1.out 0).trans rfl;have hf2:=blk_frozen BM1.out 0;have hz3:w11.cell? ⟨gR,0,none⟩=some (.slice none 0 0):=(blk_cell BR1.out 0).trans rfl;have hz4:w11.cell? ⟨gR,1,none⟩=some (.slice none 0 0):=(blk_cell BR1.out 1).trans rfl;have hz5:w11.cell? ⟨gR,2,none⟩=some (.slice none 0 0):=(blk_cell BR1.out 2).trans rfl;have hf3:=blk_frozen BR1.out 0;have hf4:=blk_frozen BR1.out 1;have hf5:=blk_frozen BR1.out 2;have hnb:=NRM.out;have hnc:=Ne.symm NRM.out))
                   refine bodyPost_ret (results_ct rfl _ _ gR 31 #[.slice none 0 0,.slice none 0 0,.slice none 0 0] (0,0) _ rfl (blk_put (cs:=#[.slice none 0 0,.slice none 0 0,.slice none 0 0]) (blk_put (cs:=#[.slice none 0 0,.slice none 0 0,.slice none 0 0]) (blk_put (cs:=#[.slice none 0 0,.slice none 0 0,.slice none 0 0]) (blk_far BR1.out NRM.out _) 0 _ rfl) 1 _ rfl) 2 _ rfl) Try.underlying31 rfl (by kernel_rfl)) rfl ?_
                   exact ⟨.slice none 0 0,.slice none 0 0,.slice none 0 0,fun _=>False,fun _=>False,fun _=>False,rfl,Kd.S_nil _ _ _ _ _,Kd.R_nil _ _ _ _ _,Kd.S_nil _ _ _ _ _,fun _ h=>h.elim,fun _ h=>h.elim,fun _ h=>by simp at h,below_set (below_set (below_set (below_set HB1.out GM.out) GR.out) GR.out) GR.out⟩
                  ·rw [if_neg d4] at H
                   have d4b0:decide ((P'.length:Int) > 30)=false:=decide_eq_false d4
                   have d4b1:decide (30 < (P'.length:Int))=false:=decide_eq_false d4
                   clear d4
                   by_cases d5:i=0
                   ·rw [if_pos d5] at H
                    have d5b0:(i == 0)=true:=beq_iff_eq.mpr d5
                    clear d5
                    by_cases d6:L.length < 1000000
                    ·rw [if_pos d6] at H
                     have H':=zk H
                     have LL:=zk d6
                     have HNl:=zk (Kd.R_reads' HN.out).2.1
                     clear H d6
                     go_wp2_with (first
                      | (go_at_call 22;(with_reducible refine (number_of An (some ad) cn cM next P gM _ ?s1 ?s2 ?s3 ?s4).mono ?_);(case s1=>exact (Kd.R_reads' HN.out).2.2);(case s2=>exact (Kd.R_reads' HN.out).2.1);(case s3=>exact Kd.C_below (Kd.S_reads' HS.out).2.2 HW.out);(case s4=>exact (blk_cell (blk_below BM.out HW.out) 0).trans rfl);rintro e w10 ⟨rfl,hb⟩;have HW1:=zk (below_step HW.out hb);have HN1:=zk (Kd.R_below HN.out hb);have hz1:w10.cell? ⟨gM,0,none⟩=some (.slice (some ad) P.length cM):=(blk_cell (blk_below BM.out HW1.out) 0).trans rfl;have hf1:=blk_frozen (blk_below BM.out HW1.out) 0;clear hb)
                      | ((with_reducible refine gate_builtin (b:=.append) (xs:=#[.tmp 79,.tmp 81]) rfl ?_);at_builtin;refine Kd.S_append kRw (w0:=w) w.heap.size rfl (.tmp 79) (.tmp 81) 25 29 (.slice none 0 0) 24 rfl Try.underlying25 info29 rfl (by decide) (by omega) (.slice (some ad) P.length cM) P next [.slice An next.length cn] (fun k_=>some k_ ≠ (vL:Value).ownBlock) (fun k_=>some k_=(.slice An next.length cn:Value).ownBlock) rfl rfl ?aP ?aK ?aF ?aO ?aB ?aS ?aL ?_;(case aP=>exact ⟨_,rfl,Kd.R_lower (Kd.R_tight rfl HN1.out) HB.out.size⟩);(case aK=>exact fun k_ hk=>⟨fun h2=>za107,fun h2=>za106⟩);(case aF=>exact fun k_ hk h2=>by have h3:=HW1.out.size;have h4:=Kd.R_lt HL.out k_ h2.symm;omega);(case aO=>exact Kd.S_mono (Kd.S_below (Kd.S_bound HS.out) HW1.out) (fun k_ hk=>⟨hk.1,fun h2=>by have h3:=Kd.R_base HN1.out k_ h2.symm;have h4:=hk.2.2.1;omega⟩));(case aB=>exact below_step HB.out HW1.out);(case aS=>exact (below_step HB.out HW1.out).size);(case aL=>have:=LM.out;omega);intro v82 w11 ho hb hg hat;rw [← EP.out] at ho;have HS1:=zk ho;have HB1:=zk hb;have HL1:=zk (r_stay (Kd.S_below HS.out HW1.out) (Kd.R_below HL.out HW1.out) hg);have BM1:=zk (blk_grown (blk_below BM.out HW1.out) hg (Kd.S_ne (Kd.S_below HS.out HW1.out) (blk_below BM.out HW1.out) (by decide)));have BX1:=zk (blk_grown (blk_below BX.out HW1.out) hg (Kd.S_ne (Kd.S_below HS.out HW1.out) (blk_below BX.out HW1.out) (by decide)));have BR1:=zk (blk_grown (blk_below BR.out HW1.out) hg (Kd.S_ne (Kd.S_below HS.out HW1.out) (blk_below BR.out HW1.out) (by decide)));have FN:=zk (Kd.F_grown (Kd.R_F (Kd.R_tight rfl HN1.out)) hg (fun k_ hk=>sr_ne (Kd.S_below HS.out HW1.out) HN1.out k_ hk));clear ho hb hg hat hz1 hf1;obtain ⟨A82,c82,e82⟩:=Kd.S_slice HS1.out;subst e82;have hz2:w11.cell? ⟨gM,0,none⟩=some (.slice (some ad) P.length cM):=(blk_cell BM1.out 0).trans rfl;have hf2:=blk_frozen BM1.out 0;have hz3:w11.cell? ⟨gR,0,none⟩=some (.slice none 0 0):=(blk_cell BR1.out 0).trans rfl;have hz4:w11.cell? ⟨gR,1,none⟩=some (.slice none 0 0):=(blk_cell BR1.out 1).trans rfl;have hz5:w11.cell? ⟨gR,2,none⟩=some (.slice none 0 0):=(blk_cell BR1.out 2).trans rfl;have hf3:=blk_frozen BR1.out 0;have hf4:=blk_frozen BR1.out 1;have hf5:=blk_frozen BR1.out 2;have hnb:=NRM.out;have hnc:=Ne.symm NRM.out))
                     have HS2:=zk (Kd.S_set HS1.out BM1.out (by decide) 0 (.slice A82 P'.length c82))
                     have HL2:=zk (Kd.R_step (w1:=w11.setCell ⟨gM,0,none⟩ (.slice A82 P'.length c82)) HL1.out (fun k_ hk _=>Below.heap_setCell _ _ _ _ (fun he=>by obtain ⟨x_,e_⟩:=Kd.R_typed HL1.out k_ hk.symm;rw [he,BM1.out] at e_;simp at e_)))
                     have BM2:=zk (blk_put (cs:=#[.slice (some ad) P.length cM,vL,.slice none 0 0]) BM1.out 0 (.slice A82 P'.length c82) rfl)
                     have BX2:=zk (blk_far BX1.out NXM.out (.slice A82 P'.length c82) (p:=⟨gM,0,none⟩))
                     have BR2:=zk (blk_far BR1.out NRM.out (.slice A82 P'.length c82) (p:=⟨gM,0,none⟩))
                     have HB2:=zk (below_set HB1.out GM.out (j:=0) (v:=.slice A82 P'.length c82))
                     have FN2:=zk (Kd.F_far (p:=⟨gM,0,none⟩) FN.out (fun k_ hk he=>by obtain ⟨x_,e_⟩:=Kd.R_typed HN1.out k_ hk.symm;have h9:=blk_below BM.out HW1.out;rw [he] at e_;rw [h9] at e_;simp at e_) (.slice A82 P'.length c82))
                     generalize w11.setCell ⟨gM,0,none⟩ (.slice A82 P'.length c82)=wb at HS2 HL2 BM2 BX2 BR2 HB2 FN2 ⊢
                     obtain ⟨AL,cL,eL⟩:=Kd.R_slice HL2.out
                     subst eL
                     refine start_ (n:=9) (S:=fun w'=>w'.cell? ⟨gM,1,none⟩=some (.slice AL L.length cL)) (ds:=[6,8]) #[false,false,false,false,false,false,false,false,false] (by kernel_rfl) rfl rfl ((blk_cell BM2.out 1).trans rfl) (fun hHeld=>?_)
                     replace HS2:=zk (Kd.S_drew HS2.out)
                     replace HL2:=zk (Kd.R_drew HL2.out)
                     replace BM2:=zk (blk_drew BM2.out)
                     replace BX2:=zk (blk_drew BX2.out)
                     replace BR2:=zk (blk_drew BR2.out)
                     replace HB2:=zk (below_drew1 HB2.out)
                     replace FN2:=zk (Kd.F_drew FN2.out)
                     generalize wb.drew=wc at HS2 HL2 BM2 BX2 BR2 HB2 FN2 hHeld ⊢
                     refine pure_ (i:=0) (N:=some 91) (v:=?_) (a':=?_) #[true,false,false,false,false,false,false,false,false] rfl rfl (by kernel_rfl) (fun _ _ _ h=>h) (Or.inl ⟨by rfl,?_⟩) ?_ ?_
                     rotate_left
                     ·intro w'
                      go_simp
                      exact zr0
                     rotate_left
                     ·simp only [Act.put,zt,zu,zv,i64_w,i32_w]
                      rfl
                     refine pure_ (i:=2) (N:=some 93) (v:=?_) (a':=?_) #[true,false,true,false,false,false,false,false,false] rfl rfl (by kernel_rfl) (fun _ _ _ h=>h) (Or.inl ⟨by rfl,?_⟩) ?_ ?_
                     rotate_left
                     ·intro w'
                      go_simp
                      exact zr0
                     rotate_left
                     ·simp only [Act.put,zt,zu,zv,i64_w,i32_w]
                      rfl
                     refine pure_ (i:=3) (N:=some 94) (v:=?_) (a':=?_) #[true,false,true,true,false,false,false,false,false] rfl rfl (by kernel_rfl) (fun _ _ _ h=>h) (Or.inl ⟨by rfl,?_⟩) ?_ ?_
                     rotate_left
                     ·intro w'
                      go_simp
                      exact zr0
                     rotate_left
                     ·simp only [Act.put,zt,zu,zv,i64_w,i32_w]
                      rfl
                     refine take_ (i:=1) (N:=some 92) (v:=?_) (a':=?_) #[true,true,true,true,false,false,false,false,false] rfl rfl (by kernel_rfl) (fun _ _ _ h=>h) (Or.inl ⟨by rfl,?_⟩) hHeld ?_ ?_
                     rotate_left
                     ·intro w' s0_
                      go_simp
                      exact zr0
                     rotate_left
                     ·simp only [Act.put,zt,zu,zv,i64_w,i32_w]
                      rfl
                     refine one_ (i:=4) (N:=some 95) #[true,true,true,true,true,false,false,false,false] rfl rfl (by kernel_rfl) (by decide) (fun K hK=>?_)
                     refine goesC_ #[.pointer (some ⟨gM,0,none⟩)] Try.func22 (by kernel_rfl) rfl #[.slice An next.length cn] (by rfl) rfl rfl rfl (by (try simp only [List.map_toArray,List.map_cons,List.map_nil]);first|done|rfl) #[.slice An next.length cn,.pointer (some ⟨gM,0,none⟩)] (by rfl) ?_
                     with_reducible refine (number_of An (A82) cn c82 next P' gM _ ?s1 ?s2 ?s3 ?s4).mono ?_
                     (case s1=>exact Kd.F_now FN2.out)
                     (case s2=>exact HNl.out)
                     (case s3=>exact (Kd.S_reads' HS2.out).2.2)
                     (case s4=>exact (blk_cell BM2.out 0).trans rfl)
                     rintro e wd ⟨rfl,hb⟩
                     refine ⟨_,rfl,?_⟩
                     replace HS2:=zk (Kd.S_below HS2.out hb)
                     replace HL2:=zk (Kd.R_below HL2.out hb)
                     replace BM2:=zk (blk_below BM2.out hb)
                     replace BX2:=zk (blk_below BX2.out hb)
                     replace BR2:=zk (blk_below BR2.out hb)
                     replace HB2:=zk (below_step HB2.out hb)
                     clear hb FN2
                     refine hK.out _ _ ((blk_cell BM2.out 1).trans rfl) (fun hHeld=>?_)
                     clear hK K
                     refine norm_ (a':=?_) ?_ ?_
                     rotate_left
                     ·show Act.put _ (some 95) _=_
                      simp only [Act.put,zt,zu,zv,i64_w,i32_w]
                      rfl
                     refine one_ (i:=5) (N:=some 96) #[true,true,true,true,true,true,false,false,false] rfl rfl (by kernel_rfl) (by decide) (fun K hK=>?_)
                     refine value_ (w1:=?_) (v:=?_) (by rfl) rfl ?_ ?_
                     rotate_left 2
                     ·go_simp
                      constructor
                      ·rfl
                      ·rfl
                     refine hK.out _ _ ((blk_cell (blk_alloc BM2.out _) 1).trans rfl) (fun hHeld=>?_)
                     clear hK K
                     refine norm_ (a':=?_) ?_ ?_
                     rotate_left
                     ·show Act.put _ (some 96) _=_
                      simp only [Act.put,zt,zu,zv,i64_w,i32_w]
                      rfl
                     refine last_ (i:=6) (N:=some 97) #[true,true,true,true,true,true,true,false,false] rfl rfl (by kernel_rfl) (by decide) (fun K hK=>?_)
                     refine Kd.R_append_step (Kd.int .i64) (w0:=w) w.heap.size (by rfl) (.tmp 92) (.tmp 96) 29 3 (.int .i64 0) 8 rfl Try.underlying29 info3 rfl (by decide) (by omega) (.slice AL L.length cL) L (numOf P' next) [.int .i64 (numOf P' next)] (fun _=>True) (fun _=>False) rfl rfl ?aP (fun _ hk=>hk.elim) ?aF ?aO ?aB ?aS ?aL ?_
                     (case aP=>exact rfl)
                     (case aB=>exact HB2.out)
                     (case aF=>exact fun _ _=>trivial)
                     (case aO=>exact Kd.R_mono HL2.out (fun _ _=>trivial))
                     (case aS=>exact HB2.out.size)
                     (case aL=>have:=LL.out;omega)
                     intro v97 we ho hb hg hat
                     have HL3:=zk (Kd.R_tight rfl ho)
                     have HS3:=zk (Kd.S_after (ok:=fun _=>True) (Kd.S_mono HS2.out (fun _ hk=>⟨trivial,hk⟩)) hg hat)
                     have BM3:=zk (blk_grown BM2.out hg (Kd.R_ne HL2.out BM2.out (by decide)))
                     have BX3:=zk (blk_grown BX2.out hg (Kd.R_ne HL2.out BX2.out (by decide)))
                     have BR3:=zk (blk_grown BR2.out hg (Kd.R_ne HL2.out BR2.out (by decide)))
                     have HB3:=zk hb
                     clear ho hb hg hat HS2 HL2 BM2 BX2 BR2 HB2
                     obtain ⟨AN,cN,eN⟩:=Kd.R_slice HL3.out
                     rw [List.length_append,List.length_singleton] at eN
                     subst eN
                     refine hK.out _ _ ?_
                     clear hK K
                     refine norm_ (a':=?_) ?_ ?_
                     rotate_left
                     ·show Act.put _ (some 97) _=_
                      simp only [Act.put,zt,zu,zv,i64_w,i32_w]
                      rfl
                     refine pure_ (i:=7) (N:=some 98) (v:=?_) (a':=?_) #[true,true,true,true,true,true,true,true,false] rfl rfl (by kernel_rfl) (fun _ _ _ h=>h) (Or.inl ⟨by rfl,?_⟩) ?_ ?_
                     rotate_left
                     ·intro w'
                      go_simp
                      exact zr0
                     rotate_left
                     ·simp only [Act.put,zt,zu,zv,i64_w,i32_w]
                      rfl
                     refine last_ (i:=8) (N:=none) #[true,true,true,true,true,true,true,true,true] rfl rfl (by kernel_rfl) (by decide) (fun K hK=>?_)
                     have hs86:we.cell? ⟨gM,1,none⟩=some (.slice AL L.length cL):=(blk_cell BM3.out 1).trans rfl
                     have hfs86:=blk_frozen BM3.out 1
                     have hns1:=NXM.out
                     have hns2:=NRM.out
                     have hms1:=Ne.symm NXM.out
                     have hms2:=Ne.symm NRM.out
                     refine skip_ (w1:=?_) (by rfl) rfl ?_ ?_
                     rotate_left
                     ·go_simp
                      rfl
                     refine hK.out _ _ ?_
                     clear hK K
                     refine done_ (by kernel_rfl) ?_
                     try go_wp2
                     go_roundg k4
                     case measure=>have:=HK2.out;have:=HK3.out;have:=HK4.out;omega
                     case rel=>exact ⟨P',L ++ [numOf P' next],wrap64 (kk+1),_,.slice AN (L.length+1) cN,rfl,H',⟨za108⟩,⟨Kd.S_mono (Kd.S_set HS3.out BM3.out (by decide) 1 _) (fun _ hk=>hk.2)⟩,⟨Kd.R_mono (Kd.R_step HL3.out (fun k_ hk _=>Below.heap_setCell _ _ _ _ (fun he=>by obtain ⟨x_,e_⟩:=Kd.R_typed HL3.out k_ hk.symm;rw [he,BM3.out] at e_;simp at e_))) (fun _ hk=>hk)⟩,⟨blk_put (cs:=#[.slice (A82) P'.length c82,.slice AL L.length cL,.slice none 0 0]) BM3.out 1 _ rfl⟩,⟨blk_far BX3.out NXM.out _⟩,⟨blk_far BR3.out NRM.out _⟩,⟨below_set HB3.out GM.out⟩⟩
                    ·rw [if_neg d6] at H
                     exact absurd H (by simp)
                   ·rw [if_neg d5] at H
                    have H':=zk H
                    clear H
                    have d5b0:(i == 0)=false:=beq_eq_false_iff_ne.mpr d5
                    clear d5
                    go_wp2_with (first
                     | (go_at_call 22;(with_reducible refine (number_of An (some ad) cn cM next P gM _ ?s1 ?s2 ?s3 ?s4).mono ?_);(case s1=>exact (Kd.R_reads' HN.out).2.2);(case s2=>exact (Kd.R_reads' HN.out).2.1);(case s3=>exact Kd.C_below (Kd.S_reads' HS.out).2.2 HW.out);(case s4=>exact (blk_cell (blk_below BM.out HW.out) 0).trans rfl);rintro e w10 ⟨rfl,hb⟩;have HW1:=zk (below_step HW.out hb);have HN1:=zk (Kd.R_below HN.out hb);have hz1:w10.cell? ⟨gM,0,none⟩=some (.slice (some ad) P.length cM):=(blk_cell (blk_below BM.out HW1.out) 0).trans rfl;have hf1:=blk_frozen (blk_below BM.out HW1.out) 0;clear hb)
                     | ((with_reducible refine gate_builtin (b:=.append) (xs:=#[.tmp 79,.tmp 81]) rfl ?_);at_builtin;refine Kd.S_append kRw (w0:=w) w.heap.size rfl (.tmp 79) (.tmp 81) 25 29 (.slice none 0 0) 24 rfl Try.underlying25 info29 rfl (by decide) (by omega) (.slice (some ad) P.length cM) P next [.slice An next.length cn] (fun k_=>some k_ ≠ (vL:Value).ownBlock) (fun k_=>some k_=(.slice An next.length cn:Value).ownBlock) rfl rfl ?aP ?aK ?aF ?aO ?aB ?aS ?aL ?_;(case aP=>exact ⟨_,rfl,Kd.R_lower (Kd.R_tight rfl HN1.out) HB.out.size⟩);(case aK=>exact fun k_ hk=>⟨fun h2=>za107,fun h2=>za106⟩);(case aF=>exact fun k_ hk h2=>by have h3:=HW1.out.size;have h4:=Kd.R_lt HL.out k_ h2.symm;omega);(case aO=>exact Kd.S_mono (Kd.S_below (Kd.S_bound HS.out) HW1.out) (fun k_ hk=>⟨hk.1,fun h2=>by have h3:=Kd.R_base HN1.out k_ h2.symm;have h4:=hk.2.2.1;omega⟩));(case aB=>exact below_step HB.out HW1.out);(case aS=>exact (below_step HB.out HW1.out).size);(case aL=>have:=LM.out;omega);intro v82 w11 ho hb hg hat;rw [← EP.out] at ho;have HS1:=zk ho;have HB1:=zk hb;have HL1:=zk (r_stay (Kd.S_below HS.out HW1.out) (Kd.R_below HL.out HW1.out) hg);have BM1:=zk (blk_grown (blk_below BM.out HW1.out) hg (Kd.S_ne (Kd.S_below HS.out HW1.out) (blk_below BM.out HW1.out) (by decide)));have BX1:=zk (blk_grown (blk_below BX.out HW1.out) hg (Kd.S_ne (Kd.S_below HS.out HW1.out) (blk_below BX.out HW1.out) (by decide)));have BR1:=zk (blk_grown (blk_below BR.out HW1.out) hg (Kd.S_ne (Kd.S_below HS.out HW1.out) (blk_below BR.out HW1.out) (by decide)));have FN:=zk (Kd.F_grown (Kd.R_F (Kd.R_tight rfl HN1.out)) hg (fun k_ hk=>sr_ne (Kd.S_below HS.out HW1.out) HN1.out k_ hk));clear ho hb hg hat hz1 hf1;obtain ⟨A82,c82,e82⟩:=Kd.S_slice HS1.out;subst e82;have hz2:w11.cell? ⟨gM,0,none⟩=some (.slice (some ad) P.length cM):=(blk_cell BM1.out 0).trans rfl;have hf2:=blk_frozen BM1.out 0;have hz3:w11.cell? ⟨gR,0,none⟩=some (.slice none 0 0):=(blk_cell BR1.out 0).trans rfl;have hz4:w11.cell? ⟨gR,1,none⟩=some (.slice none 0 0):=(blk_cell BR1.out 1).trans rfl;have hz5:w11.cell? ⟨gR,2,none⟩=some (.slice none 0 0):=(blk_cell BR1.out 2).trans rfl;have hf3:=blk_frozen BR1.out 0;have hf4:=blk_frozen BR1.out 1;have hf5:=blk_frozen BR1.out 2;have hnb:=NRM.out;have hnc:=Ne.symm NRM.out))
                    go_roundg k4
                    case measure=>have:=HK2.out;have:=HK3.out;have:=HK4.out;omega
                    case rel=>exact ⟨P',L,wrap64 (kk+1),_,vL,rfl,H',⟨za108⟩,⟨Kd.S_set HS1.out BM1.out (by decide) 0 _⟩,⟨Kd.R_step HL1.out (fun k_ hk _=>Below.heap_setCell _ _ _ _ (fun he=>by obtain ⟨x_,e_⟩:=Kd.R_typed HL1.out k_ hk.symm;rw [he,BM1.out] at e_;simp at e_))⟩,⟨blk_put (cs:=#[.slice (some ad) P.length cM,vL,.slice none 0 0]) BM1.out 0 _ rfl⟩,⟨blk_far BX1.out NXM.out _⟩,⟨blk_far BR1.out NRM.out _⟩,⟨below_set HB1.out GM.out⟩⟩
                 ·rw [if_neg d3] at H
                  exact absurd H (by simp)
                ·rw [if_neg d2] at H
                 have d2b0:decide (numOf P next < 0)=false:=decide_eq_false d2
                 clear d2
                 by_cases d5:i=0
                 ·rw [if_pos d5] at H
                  have d5b0:(i == 0)=true:=beq_iff_eq.mpr d5
                  clear d5
                  by_cases d6:L.length < 1000000
                  ·rw [if_pos d6] at H
                   have H':=zk H
                   have LL:=zk d6
                   have HNl:=zk (Kd.R_reads' HN.out).2.1
                   clear H d6
                   go_wp2_with (first
                    | (go_at_call 22;(with_reducible refine (number_of An (some ad) cn cM next P gM _ ?s1 ?s2 ?s3 ?s4).mono ?_);(case s1=>exact (Kd.R_reads' HN.out).2.2);(case s2=>exact (Kd.R_reads' HN.out).2.1);(case s3=>exact Kd.C_below (Kd.S_reads' HS.out).2.2 HW.out);(case s4=>exact (blk_cell (blk_below BM.out HW.out) 0).trans rfl);rintro e w10 ⟨rfl,hb⟩;have HW1:=zk (below_step HW.out hb);have HN1:=zk (Kd.R_below HN.out hb);have hz1:w10.cell? ⟨gM,0,none⟩=some (.slice (some ad) P.length cM):=(blk_cell (blk_below BM.out HW1.out) 0).trans rfl;have hf1:=blk_frozen (blk_below BM.out HW1.out) 0;clear hb))
                   have HS2:=zk (Kd.S_below HS.out HW1.out)
                   have HL2:=zk (Kd.R_below HL.out HW1.out)
                   have BM2:=zk (blk_below BM.out HW1.out)
                   have BX2:=zk (blk_below BX.out HW1.out)
                   have BR2:=zk (blk_below BR.out HW1.out)
                   have HB2:=zk (below_step HB.out HW1.out)
                   have FN2:=zk (Kd.R_F HN1.out)
                   obtain ⟨wb,rfl⟩:∃ x,x=w10:=⟨w10,rfl⟩
                   obtain ⟨AL,cL,eL⟩:=Kd.R_slice HL2.out
                   subst eL
                   refine start_ (n:=9) (S:=fun w'=>w'.cell? ⟨gM,1,none⟩=some (.slice AL L.length cL)) (ds:=[6,8]) #[false,false,false,false,false,false,false,false,false] (by kernel_rfl) rfl rfl ((blk_cell BM2.out 1).trans rfl) (fun hHeld=>?_)
                   replace HS2:=zk (Kd.S_drew HS2.out)
                   replace HL2:=zk (Kd.R_drew HL2.out)
                   replace BM2:=zk (blk_drew BM2.out)
                   replace BX2:=zk (blk_drew BX2.out)
                   replace BR2:=zk (blk_drew BR2.out)
                   replace HB2:=zk (below_drew1 HB2.out)
                   replace FN2:=zk (Kd.F_drew FN2.out)
                   generalize wb.drew=wc at HS2 HL2 BM2 BX2 BR2 HB2 FN2 hHeld ⊢
                   refine pure_ (i:=0) (N:=some 91) (v:=?_) (a':=?_) #[true,false,false,false,false,false,false,false,false] rfl rfl (by kernel_rfl) (fun _ _ _ h=>h) (Or.inl ⟨by rfl,?_⟩) ?_ ?_
                   rotate_left
                   ·intro w'
                    go_simp
                    exact zr0
                   rotate_left
                   ·simp only [Act.put,zt,zu,zv,i64_w,i32_w]
                    rfl
                   refine pure_ (i:=2) (N:=some 93) (v:=?_) (a':=?_) #[true,false,true,false,false,false,false,false,false] rfl rfl (by kernel_rfl) (fun _ _ _ h=>h) (Or.inl ⟨by rfl,?_⟩) ?_ ?_
                   rotate_left
                   ·intro w'
                    go_simp
                    exact zr0
                   rotate_left
                   ·simp only [Act.put,zt,zu,zv,i64_w,i32_w]
                    rfl
                   refine pure_ (i:=3) (N:=some 94) (v:=?_) (a':=?_) #[true,false,true,true,false,false,false,false,false] rfl rfl (by kernel_rfl) (fun _ _ _ h=>h) (Or.inl ⟨by rfl,?_⟩) ?_ ?_
                   rotate_left
                   ·intro w'
                    go_simp
                    exact zr0
                   rotate_left
                   ·simp only [Act.put,zt,zu,zv,i64_w,i32_w]
                    rfl
                   refine take_ (i:=1) (N:=some 92) (v:=?_) (a':=?_) #[true,true,true,true,false,false,false,false,false] rfl rfl (by kernel_rfl) (fun _ _ _ h=>h) (Or.inl ⟨by rfl,?_⟩) hHeld ?_ ?_
                   rotate_left
                   ·intro w' s0_
                    go_simp
                    exact zr0
                   rotate_left
                   ·simp only [Act.put,zt,zu,zv,i64_w,i32_w]
                    rfl
                   refine one_ (i:=4) (N:=some 95) #[true,true,true,true,true,false,false,false,false] rfl rfl (by kernel_rfl) (by decide) (fun K hK=>?_)
                   refine goesC_ #[.pointer (some ⟨gM,0,none⟩)] Try.func22 (by kernel_rfl) rfl #[.slice An next.length cn] (by rfl) rfl rfl rfl (by (try simp only [List.map_toArray,List.map_cons,List.map_nil]);first|done|rfl) #[.slice An next.length cn,.pointer (some ⟨gM,0,none⟩)] (by rfl) ?_
                   with_reducible refine (number_of An (some ad) cn cM next P gM _ ?s1 ?s2 ?s3 ?s4).mono ?_
                   (case s1=>exact Kd.F_now FN2.out)
                   (case s2=>exact HNl.out)
                   (case s3=>exact (Kd.S_reads' HS2.out).2.2)
                   (case s4=>exact (blk_cell BM2.out 0).trans rfl)
                   rintro e wd ⟨rfl,hb⟩
                   refine ⟨_,rfl,?_⟩
                   replace HS2:=zk (Kd.S_below HS2.out hb)
                   replace HL2:=zk (Kd.R_below HL2.out hb)
                   replace BM2:=zk (blk_below BM2.out hb)
                   replace BX2:=zk (blk_below BX2.out hb)
                   replace BR2:=zk (blk_below BR2.out hb)
                   replace HB2:=zk (below_step HB2.out hb)
                   clear hb FN2
                   refine hK.out _ _ ((blk_cell BM2.out 1).trans rfl) (fun hHeld=>?_)
                   clear hK K
                   refine norm_ (a':=?_) ?_ ?_
                   rotate_left
                   ·show Act.put _ (some 95) _=_
                    simp only [Act.put,zt,zu,zv,i64_w,i32_w]
                    rfl
                   refine one_ (i:=5) (N:=some 96) #[true,true,true,true,true,true,false,false,false] rfl rfl (by kernel_rfl) (by decide) (fun K hK=>?_)
                   refine value_ (w1:=?_) (v:=?_) (by rfl) rfl ?_ ?_
                   rotate_left 2
                   ·go_simp
                    constructor
                    ·rfl
                    ·rfl
                   refine hK.out _ _ ((blk_cell (blk_alloc BM2.out _) 1).trans rfl) (fun hHeld=>?_)
                   clear hK K
                   refine norm_ (a':=?_) ?_ ?_
                   rotate_left
                   ·show Act.put _ (some 96) _=_
                    simp only [Act.put,zt,zu,zv,i64_w,i32_w]
                    rfl
                   refine last_ (i:=6) (N:=some 97) #[true,true,true,true,true,true,true,false,false] rfl rfl (by kernel_rfl) (by decide) (fun K hK=>?_)
                   refine Kd.R_append_step (Kd.int .i64) (w0:=w) w.heap.size (by rfl) (.tmp 92) (.tmp 96) 29 3 (.int .i64 0) 8 rfl Try.underlying29 info3 rfl (by decide) (by omega) (.slice AL L.length cL) L (numOf P next) [.int .i64 (numOf P next)] (fun _=>True) (fun _=>False) rfl rfl ?aP (fun _ hk=>hk.elim) ?aF ?aO ?aB ?aS ?aL ?_
                   (case aP=>exact rfl)
                   (case aB=>exact HB2.out)
                   (case aF=>exact fun _ _=>trivial)
                   (case aO=>exact Kd.R_mono HL2.out (fun _ _=>trivial))
                   (case aS=>exact HB2.out.size)
                   (case aL=>have:=LL.out;omega)
                   intro v97 we ho hb hg hat
                   have HL3:=zk (Kd.R_tight rfl ho)
                   have HS3:=zk (Kd.S_after (ok:=fun _=>True) (Kd.S_mono HS2.out (fun _ hk=>⟨trivial,hk⟩)) hg hat)
                   have BM3:=zk (blk_grown BM2.out hg (Kd.R_ne HL2.out BM2.out (by decide)))
                   have BX3:=zk (blk_grown BX2.out hg (Kd.R_ne HL2.out BX2.out (by decide)))
                   have BR3:=zk (blk_grown BR2.out hg (Kd.R_ne HL2.out BR2.out (by decide)))
                   have HB3:=zk hb
                   clear ho hb hg hat HS2 HL2 BM2 BX2 BR2 HB2
                   obtain ⟨AN,cN,eN⟩:=Kd.R_slice HL3.out
                   rw [List.length_append,List.length_singleton] at eN
                   subst eN
                   refine hK.out _ _ ?_
                   clear hK K
                   refine norm_ (a':=?_) ?_ ?_
                   rotate_left
                   ·show Act.put _ (some 97) _=_
                    simp only [Act.put,zt,zu,zv,i64_w,i32_w]
                    rfl
                   refine pure_ (i:=7) (N:=some 98) (v:=?_) (a':=?_) #[true,true,true,true,true,true,true,true,false] rfl rfl (by kernel_rfl) (fun _ _ _ h=>h) (Or.inl ⟨by rfl,?_⟩) ?_ ?_
                   rotate_left
                   ·intro w'
                    go_simp
                    exact zr0
                   rotate_left
                   ·simp only [Act.put,zt,zu,zv,i64_w,i32_w]
                    rfl
                   refine last_ (i:=8) (N:=none) #[true,true,true,true,true,true,true,true,true] rfl rfl (by kernel_rfl) (by decide) (fun K hK=>?_)
                   have hs86:we.cell? ⟨gM,1,none⟩=some (.slice AL L.length cL):=(blk_cell BM3.out 1).trans rfl
                   have hfs86:=blk_frozen BM3.out 1
                   have hns1:=NXM.out
                   have hns2:=NRM.out
                   have hms1:=Ne.symm NXM.out
                   have hms2:=Ne.symm NRM.out
                   refine skip_ (w1:=?_) (by rfl) rfl ?_ ?_
                   rotate_left
                   ·go_simp
                    rfl
                   refine hK.out _ _ ?_
                   clear hK K
                   refine done_ (by kernel_rfl) ?_
                   try go_wp2
                   go_roundg k4
                   case measure=>have:=HK2.out;have:=HK3.out;have:=HK4.out;omega
                   case rel=>exact ⟨P,L ++ [numOf P next],wrap64 (kk+1),_,.slice AN (L.length+1) cN,rfl,H',⟨za108⟩,⟨Kd.S_mono (Kd.S_set HS3.out BM3.out (by decide) 1 _) (fun _ hk=>hk.2)⟩,⟨Kd.R_mono (Kd.R_step HL3.out (fun k_ hk _=>Below.heap_setCell _ _ _ _ (fun he=>by obtain ⟨x_,e_⟩:=Kd.R_typed HL3.out k_ hk.symm;rw [he,BM3.out] at e_;simp at e_))) (fun _ hk=>hk)⟩,⟨blk_put (cs:=#[.slice (some ad) P.length cM,.slice AL L.length cL,.slice none 0 0]) BM3.out 1 _ rfl⟩,⟨blk_far BX3.out NXM.out _⟩,⟨blk_far BR3.out NRM.out _⟩,⟨below_set HB3.out GM.out⟩⟩
                  ·rw [if_neg d6] at H
                   exact absurd H (by simp)
                 ·rw [if_neg d5] at H
                  have H':=zk H
                  clear H
                  have d5b0:(i == 0)=false:=beq_eq_false_iff_ne.mpr d5
                  clear d5
                  go_wp2_with (first
                   | (go_at_call 22;(with_reducible refine (number_of An (some ad) cn cM next P gM _ ?s1 ?s2 ?s3 ?s4).mono ?_);(case s1=>exact (Kd.R_reads' HN.out).2.2);(case s2=>exact (Kd.R_reads' HN.out).2.1);(case s3=>exact Kd.C_below (Kd.S_reads' HS.out).2.2 HW.out);(case s4=>exact (blk_cell (blk_below BM.out HW.out) 0).trans rfl);rintro e w10 ⟨rfl,hb⟩;have HW1:=zk (below_step HW.out hb);have HN1:=zk (Kd.R_below HN.out hb);have hz1:w10.cell? ⟨gM,0,none⟩=some (.slice (some ad) P.length cM):=(blk_cell (blk_below BM.out HW1.out) 0).trans rfl;have hf1:=blk_frozen (blk_below BM.out HW1.out) 0;clear hb))
                  go_roundg k4
                  case measure=>have:=HK2.out;have:=HK3.out;have:=HK4.out;omega
                  case rel=>exact ⟨P,L,wrap64 (kk+1),_,vL,rfl,H',⟨za108⟩,⟨Kd.S_below HS.out HW1.out⟩,⟨Kd.R_below HL.out HW1.out⟩,⟨blk_below BM.out HW1.out⟩,⟨blk_below BX.out HW1.out⟩,⟨blk_below BR.out HW1.out⟩,⟨below_step HB.out HW1.out⟩⟩
            ·rw [if_neg c4] at H
             exact absurd H (by simp)
           ·rw [if_neg c3] at H
            exact absurd H (by simp)
          ·rw [if_neg c2] at H
           have c2b0:decide (kk < 3)=false:=decide_eq_false c2
           clear c2
           have H':=zk H
           clear H
           go_wp2
           go_roundg k3
           case measure=>have:=HK2.out;have:=HK3.out;omega
           case rel=>exact ⟨P,L,wrap64 (i+1),vM,vL,rfl,H',⟨by have:=HK2.out;have:=HK3.out;omega⟩,HS,HL,BM,BX,BR,HB⟩
       ·rw [if_neg c1] at H
        have c1b0:decide (i < (P.length:Int))=false:=decide_eq_false c1
        clear c1
        have H':=zk H
        clear H
        obtain ⟨AL,cL,eL⟩:=Kd.R_slice HL.out
        subst eL
        obtain ⟨wp,rfl⟩:∃ x,x=wr:=⟨wr,rfl⟩
        have HSp:=zk (Kd.S_types HS.out BM.out (by decide))
        go_wp2
        first|go_loopg [103] k2 (fun kq v103 w'=>∃ (D:List (List Int)) (a:Int) (vD:Value),v103 = .int .i64 a∧Aside0 (impl_BuildMonoid.l5 kq P L D a=some (r1,r2,r3,r4))∧Aside0 (kq≤k2)∧Aside0 (Kd.S kRw 29 w' w.heap.size (fun k_=>wp.heap.size≤k_) vD D)∧Aside0 (Kept wp w' (fun k_=>k_=gM))∧Aside0 (w'.heap[gM]? = some (.cells #[.slice AM P.length cM,.slice AL L.length cL,vD] 31 (0,0)))∧Aside0 (Below w.heap.size w w'))|(simp only [Act.put,zt,zv,zu];go_loopg [103] k2 (fun kq v103 w'=>∃ (D:List (List Int)) (a:Int) (vD:Value),v103 = .int .i64 a∧Aside0 (impl_BuildMonoid.l5 kq P L D a=some (r1,r2,r3,r4))∧Aside0 (kq≤k2)∧Aside0 (Kd.S kRw 29 w' w.heap.size (fun k_=>wp.heap.size≤k_) vD D)∧Aside0 (Kept wp w' (fun k_=>k_=gM))∧Aside0 (w'.heap[gM]? = some (.cells #[.slice AM P.length cM,.slice AL L.length cL,vD] 31 (0,0)))∧Aside0 (Below w.heap.size w w')))
        case atStart=>exact ⟨[],0,_,rfl,H',⟨Nat.le_refl _⟩,⟨Kd.S_nil _ _ _ _ _⟩,⟨Kept.refl _ _⟩,BM,HB⟩
        case round =>
         clear H' hz0 hf0 c1b0
         obtain ⟨D,a,vD,rfl,HA,HK5,HD,HKp,BM5,HB5⟩:=hrel
         cases gk with
         | zero =>
          exact absurd HA.out (by simp [impl_BuildMonoid.l5])
         | succ k3 =>
          have H:=HA.out
          clear HA
          simp only [impl_BuildMonoid.l5] at H
          obtain ⟨wb,rfl⟩:∃ x,x=wr:=⟨wr,rfl⟩
          obtain ⟨AD,cD,eD⟩:=Kd.S_slice HD.out
          subst eD
          have HSb:=zk (Kd.S_kept HSp.out HKp.out (fun k_ hk h=>hk.2 h))
          by_cases c1:a < (P.length:Int)
          ·rw [if_pos c1] at H
           by_cases c2:0≤a
           ·rw [if_pos c2] at H
            have H':=zk H
            clear H
            have c1b0:decide (a < (P.length:Int))=true:=decide_eq_true c1
            obtain ⟨ad,Ax,cx,eA,hx,hlx,hCx⟩:=at_L3 (Kd.S_reads' HSb.out).2.2 a c2 c1
            cases eA
            have HCx:=zk hCx
            clear hlx hCx
            replace c1:=eq_true c1
            replace c2:=eq_true c2
            go_wp2_with (first
             | ((with_reducible refine gate_dst (N:=107) rfl ?_);refine Kd.R_lit (Kd.int .i64) _ 3 ?hg (N:=107) ?hd (xs:=([]:List Int)) (inner:=[]) (ok:=fun _=>True) (okp:=fun _=>True) ?hr ?hp (fun _ hk=>hk) trivial (Below.refl _ _) (Nat.le_refl _) (by simp) ?_;(case hd=>rfl);(case hg=>rfl);(case hr=>first|(go_simp;done)|(go_simp;rfl));(case hp=>exact Reps.none _ _);intro v107 w12 ho hb hg_ hnew_;clear hg_ hnew_;have HN:=zk ho;have HW:=zk hb;have hz1:w12.cell? ⟨gM,0,none⟩=some (.slice (some ad) P.length cM):=(blk_cell (blk_below BM5.out hb) 0).trans rfl;have hf1:=blk_frozen (blk_below BM5.out hb) 0;clear ho hb))
            first|go_loopg [15,111] k3 (fun kq v15 v111 w'=>∃ (row:List Int) (b:Int),v111 = .int .i64 b∧Aside0 (impl_BuildMonoid.l6 kq P L D a (rd_L3 P a) row b=some (r1,r2,r3,r4))∧Aside0 (kq≤k3)∧Aside0 (Kd.R (Kd.int .i64) 3 w' wb.heap.size (fun _=>True) v15 row)∧Aside0 (Below wb.heap.size wb w'))|(simp only [Act.put,zt,zv,zu];go_loopg [15,111] k3 (fun kq v15 v111 w'=>∃ (row:List Int) (b:Int),v111 = .int .i64 b∧Aside0 (impl_BuildMonoid.l6 kq P L D a (rd_L3 P a) row b=some (r1,r2,r3,r4))∧Aside0 (kq≤k3)∧Aside0 (Kd.R (Kd.int .i64) 3 w' wb.heap.size (fun _=>True) v15 row)∧Aside0 (Below wb.heap.size wb w')))
            case atStart=>exact ⟨[],0,rfl,H',⟨Nat.le_refl _⟩,HN,HW⟩
            case round =>
             clear H' HN HW hz1 hf1 hx c1b0
             obtain ⟨row,b,rfl,HA,HK6,HRow,HWb⟩:=hrel
             cases gk with
             | zero =>
              exact absurd HA.out (by simp [impl_BuildMonoid.l6])
             | succ k4 =>
              have H:=HA.out
              clear HA
              simp only [impl_BuildMonoid.l6] at H
              obtain ⟨wc,rfl⟩:∃ x,x=wr:=⟨wr,rfl⟩
              obtain ⟨Aw,cw,ew⟩:=Kd.R_slice HRow.out
              subst ew
              by_cases d1:b < (P.length:Int)
              ·rw [if_pos d1] at H
               by_cases d2:0≤b
               ·rw [if_pos d2] at H
                have H':=zk H
                clear H
                have d1b0:decide (b < (P.length:Int))=true:=decide_eq_true d1
                obtain ⟨ad',Ay,cy,eA',hy,hly,hCy⟩:=at_L3 (Kd.C_below (Kd.S_reads' HSb.out).2.2 HWb.out) b d2 d1
                cases eA'
                have HCy:=zk hCy
                clear hly hCy
                replace d1:=eq_true d1
                replace d2:=eq_true d2
                go_wp2_with (first
                 | ((with_reducible refine gate_dst (N:=115) rfl ?_);refine Kd.R_lit (Kd.int .i64) _ 3 ?hg (N:=115) ?hd (xs:=([]:List Int)) (inner:=[]) (ok:=fun _=>True) (okp:=fun _=>True) ?hr ?hp (fun _ hk=>hk) trivial (Below.refl _ _) (Nat.le_refl _) (by simp) ?_;(case hd=>rfl);(case hg=>rfl);(case hr=>first|(go_simp;done)|(go_simp;rfl));(case hp=>exact Reps.none _ _);intro v115 w13 ho hb hg_ hnew_;clear hg_ hnew_;have HN:=zk ho;have HW:=zk hb;clear ho hb))
                first|go_loopg [18,118] k4 (fun kq v18 v118 w'=>∃ (both:List Int) (c:Int),v118 = .int .i64 c∧Aside0 (impl_BuildMonoid.l7 kq P L D a (rd_L3 P a) row b (rd_L3 P b) both c=some (r1,r2,r3,r4))∧Aside0 (kq≤k4)∧Aside0 (Kd.R (Kd.int .i64) 3 w' wc.heap.size (fun _=>True) v18 both)∧Aside0 (Below wc.heap.size wc w'))|(simp only [Act.put,zt,zv,zu];go_loopg [18,118] k4 (fun kq v18 v118 w'=>∃ (both:List Int) (c:Int),v118 = .int .i64 c∧Aside0 (impl_BuildMonoid.l7 kq P L D a (rd_L3 P a) row b (rd_L3 P b) both c=some (r1,r2,r3,r4))∧Aside0 (kq≤k4)∧Aside0 (Kd.R (Kd.int .i64) 3 w' wc.heap.size (fun _=>True) v18 both)∧Aside0 (Below wc.heap.size wc w')))
                case atStart=>exact ⟨[],0,rfl,H',⟨Nat.le_refl _⟩,HN,HW⟩
                case round =>
                 clear H' HN HW hy d1b0
                 obtain ⟨both,c,rfl,HA,HK7,HN,HW⟩:=hrel
                 cases gk with
                 | zero =>
                  exact absurd HA.out (by simp [impl_BuildMonoid.l7])
                 | succ k5 =>
                  have H:=HA.out
                  clear HA
                  simp only [impl_BuildMonoid.l7] at H
                  obtain ⟨An,cn,en⟩:=Kd.R_slice HN.out
                  subst en
                  by_cases e1:c < ((rd_L3 P a).length:Int)
                  ·rw [if_pos e1] at H
                   by_cases e2:0≤c
                   ·rw [if_pos e2] at H
                    by_cases e3:0≤rd (rd_L3 P a) c
                    ·rw [if_pos e3] at H
                     by_cases e4:rd (rd_L3 P a) c < ((rd_L3 P b).length:Int)
                     ·rw [if_pos e4] at H
                      by_cases e5:both.length < 1000000
                      ·rw [if_pos e5] at H
                       have H':=zk H
                       have LM:=zk e5
                       clear H e5
                       obtain ⟨ax,ex,hx1⟩:=Kd.at_int (Kd.C_below (Kd.C_below HCx.out HWb.out) HW.out) c e2 e1
                       cases ex
                       obtain ⟨ay,ey,hx2⟩:=Kd.at_int (Kd.C_below HCy.out HW.out) (rd (rd_L3 P a) c) e3 e4
                       cases ey
                       have e1b0:decide (c < ((rd_L3 P a).length:Int))=true:=decide_eq_true e1
                       replace e1:=eq_true e1
                       replace e2:=eq_true e2
                       replace e3:=eq_true e3
                       replace e4:=eq_true e4
                       go_wp2_with (first
                        | ((with_reducible refine gate_builtin (b:=.append) (xs:=#[.tmp 122,.tmp 127]) rfl ?_);at_builtin;refine Kd.R_append (Kd.int .i64) (w0:=wc) wc.heap.size rfl (.tmp 122) (.tmp 127) 29 3 (.int .i64 0) 8 rfl Try.underlying29 info3 rfl (by decide) (by omega) (.slice An both.length cn) both (rd (rd_L3 P b) (rd (rd_L3 P a) c)) [.int .i64 (rd (rd_L3 P b) (rd (rd_L3 P a) c))] (fun _=>True) (fun k_=>False) rfl rfl ?aP (fun _ hk=>hk.elim) (fun _ _=>trivial) ?aO ?aB ?aS ?aL ?_;(case aP=>exact rfl);(case aO=>exact HN.out);(case aB=>exact HW.out);(case aS=>exact (HW.out).size);(case aL=>have:=LM.out;omega);intro v128 w128 ho hb hg hat;have HN':=zk ho;have HW':=zk hb;clear ho hb hg hat))
                       go_roundg k5
                       case measure=>have:=HK7.out;omega
                       case rel=>exact ⟨both ++ [rd (rd_L3 P b) (rd (rd_L3 P a) c)],wrap64 (c+1),rfl,H',⟨by have:=HK7.out;omega⟩,HN',HW'⟩
                      ·rw [if_neg e5] at H
                       exact absurd H (by simp)
                     ·rw [if_neg e4] at H
                      exact absurd H (by simp)
                    ·rw [if_neg e3] at H
                     exact absurd H (by simp)
                   ·rw [if_neg e2] at H
                    exact absurd H (by simp)
                  ·rw [if_neg e1] at H
                   have e1b0:decide (c < ((rd_L3 P a).length:Int))=false:=decide_eq_false e1
                   clear e1
                   by_cases e5:row.length < 1000000
                   ·rw [if_pos e5] at H
                    have H':=zk H
                    have LM:=zk e5
                    clear H e5
                    have BMc:=zk (blk_below (blk_below BM5.out HWb.out) HW.out)
                    go_wp2_with (first
                     | (go_at_call 22;(with_reducible refine (number_of An (some ad) cn cM both P gM _ ?s1 ?s2 ?s3 ?s4).mono ?_);(case s1=>exact (Kd.R_reads' HN.out).2.2);(case s2=>exact (Kd.R_reads' HN.out).2.1);(case s3=>exact Kd.C_below (Kd.C_below (Kd.S_reads' HSb.out).2.2 HWb.out) HW.out);(case s4=>exact (blk_cell BMc.out 0).trans rfl);rintro e w20 ⟨rfl,hb⟩;have HW2:=zk (below_step HWb.out (below_step HW.out hb));have HRow2:=zk (Kd.R_below HRow.out (below_step HW.out hb));clear hb)
                     | ((with_reducible refine gate_builtin (b:=.append) (xs:=#[.tmp 130,.tmp 134]) rfl ?_);at_builtin;refine Kd.R_append (Kd.int .i64) (w0:=wb) wb.heap.size rfl (.tmp 130) (.tmp 134) 29 3 (.int .i64 0) 8 rfl Try.underlying29 info3 rfl (by decide) (by omega) (.slice Aw row.length cw) row (numOf P both) [.int .i64 (numOf P both)] (fun _=>True) (fun k_=>False) rfl rfl ?aP (fun _ hk=>hk.elim) (fun _ _=>trivial) ?aO ?aB ?aS ?aL ?_;(case aP=>exact rfl);(case aO=>exact HRow2.out);(case aB=>exact HW2.out);(case aS=>exact (HW2.out).size);(case aL=>have:=LM.out;omega);intro v135 w135 ho hb hg hat;have HN':=zk ho;have HW':=zk hb;clear ho hb hg hat))
                    go_roundg k5
                    case measure=>have:=HK6.out;have:=HK7.out;omega
                    case rel=>exact ⟨row ++ [numOf P both],wrap64 (b+1),rfl,H',⟨by have:=HK6.out;have:=HK7.out;omega⟩,HN',HW'⟩
                   ·rw [if_neg e5] at H
                    exact absurd H (by simp)
               ·rw [if_neg d2] at H
                exact absurd H (by simp)
              ·rw [if_neg d1] at H
               have d1b0:decide (b < (P.length:Int))=false:=decide_eq_false d1
               clear d1
               by_cases d3:D.length < 1000000
               ·rw [if_pos d3] at H
                have H':=zk H
                have LM:=zk d3
                clear H d3
                have BMb:=zk (blk_below BM5.out HWb.out)
                have hz1:wc.cell? ⟨gM,2,none⟩=some (.slice AD D.length cD):=(blk_cell BMb.out 2).trans rfl
                have hf1:=blk_frozen BMb.out 2
                have szb:=HKp.out.1
                go_wp2_with (first
                 | ((with_reducible refine gate_builtin (b:=.append) (xs:=#[.tmp 138,.tmp 140]) rfl ?_);at_builtin;refine Kd.S_append kRw (w0:=w) w.heap.size rfl (.tmp 138) (.tmp 140) 25 29 (.slice none 0 0) 24 rfl Try.underlying25 info29 rfl (by decide) (by omega) (.slice AD D.length cD) D row [.slice Aw row.length cw] (fun k_=>wp.heap.size≤k_) (fun k_=>some k_=(.slice Aw row.length cw:Value).ownBlock) rfl rfl ?aP ?aK ?aF ?aO ?aB ?aS ?aL ?_;(case aP=>exact ⟨_,rfl,Kd.R_lower (Kd.R_tight rfl HRow.out) HB5.out.size⟩);(case aK=>exact fun k_ hk=>⟨by have h3:=Kd.R_base HRow.out k_ hk.symm;omega,fun h2=>by have h3:=Kd.R_base HRow.out k_ hk.symm;have h4:=Kd.S_lt HD.out k_ h2.symm;omega⟩);(case aF=>exact fun k_ hk=>by have h3:=HWb.out.size;omega);(case aO=>exact Kd.S_mono (Kd.S_below (Kd.S_bound HD.out) HWb.out) (fun k_ hk=>⟨hk.1,fun h2=>by have h3:=Kd.R_base HRow.out k_ h2.symm;have h4:=hk.2.2.1;omega⟩));(case aB=>exact below_step HB5.out HWb.out);(case aS=>exact (below_step HB5.out HWb.out).size);(case aL=>have:=LM.out;omega);intro v141 w30 ho hb hg hat;have HS1:=zk ho;have HB1:=zk hb;have HK1:=zk (Kept.of_grown hg (Kept.below HKp.out HWb.out) (fun k_ e_ => .inr ((Kd.S_R HD.out).1 k_ e_)));have BM1:=zk (blk_grown BMb.out hg (Kd.S_ne (Kd.S_below HD.out HWb.out) BMb.out (by decide)));clear ho hb hg hat hz1 hf1;obtain ⟨AE,cE,eE⟩:=Kd.S_slice HS1.out;rw [List.length_append,List.length_singleton] at eE;subst eE;have hz2:w30.cell? ⟨gM,2,none⟩=some (.slice AD D.length cD):=(blk_cell BM1.out 2).trans rfl;have hf2:=blk_frozen BM1.out 2))
                go_roundg k4
                case measure=>have:=HK5.out;have:=HK6.out;omega
                case rel=>exact ⟨D ++ [row],wrap64 (a+1),_,rfl,H',⟨by have:=HK5.out;have:=HK6.out;omega⟩,⟨Kd.S_set HS1.out BM1.out (by decide) 2 _⟩,⟨Kept.setCell HK1.out (p:=⟨gM,2,none⟩) (.inl rfl) _⟩,⟨blk_put (cs:=#[.slice (some ad) P.length cM,.slice AL L.length cL,.slice AD D.length cD]) BM1.out 2 _ rfl⟩,⟨below_set HB1.out GM.out⟩⟩
               ·rw [if_neg d3] at H
                exact absurd H (by simp)
           ·rw [if_neg c2] at H
            exact absurd H (by simp)
          ·rw [if_neg c1] at H
           have c1b0:decide (a < (P.length:Int))=false:=decide_eq_false c1
           clear c1
           simp only [Option.some.injEq,Prod.mk.injEq] at H
           obtain ⟨rfl,rfl,rfl,rfl⟩:=H
           have BRb:=zk (blk_kept BR.out HKp.out (fun h=>NRM.out h))
           have HLb:=zk (Kd.R_kept HL.out HKp.out (fun k_ hk h=>by obtain ⟨x_,e_⟩:=Kd.R_typed HL.out k_ hk.symm;rw [h,BM.out] at e_;simp at e_))
           have HSf:=zk (Kd.S_bound HSp.out)
           have hz1:wb.cell? ⟨gM,0,none⟩=some (.slice AM P.length cM):=(blk_cell BM5.out 0).trans rfl
           have hz2:wb.cell? ⟨gM,1,none⟩=some (.slice AL L.length cL):=(blk_cell BM5.out 1).trans rfl
           have hz3:wb.cell? ⟨gM,2,none⟩=some (.slice AD D.length cD):=(blk_cell BM5.out 2).trans rfl
           have hz4:wb.cell? ⟨gR,0,none⟩=some (.slice none 0 0):=(blk_cell BRb.out 0).trans rfl
           have hz5:wb.cell? ⟨gR,1,none⟩=some (.slice none 0 0):=(blk_cell BRb.out 1).trans rfl
           have hz6:wb.cell? ⟨gR,2,none⟩=some (.slice none 0 0):=(blk_cell BRb.out 2).trans rfl
           have hf1:=blk_frozen BM5.out 0
           have hf2:=blk_frozen BM5.out 1
           have hf3:=blk_frozen BM5.out 2
           have hf4:=blk_frozen BRb.out 0
           have hf5:=blk_frozen BRb.out 1
           have hf6:=blk_frozen BRb.out 2
           have hnb:=NRM.out
           have hnc:=Ne.symm NRM.out
           go_wp2
           refine bodyPost_ret (results_ct rfl _ _ gR 31 #[.slice AM P.length cM,.slice AL L.length cL,.slice AD D.length cD] (0,0) _ rfl (blk_put (cs:=#[.slice AM P.length cM,.slice AL L.length cL,.slice none 0 0]) (blk_put (cs:=#[.slice AM P.length cM,.slice none 0 0,.slice none 0 0]) (blk_put (cs:=#[.slice none 0 0,.slice none 0 0,.slice none 0 0]) BRb.out 0 _ rfl) 1 _ rfl) 2 _ rfl) Try.underlying31 rfl (by kernel_rfl)) rfl ?_
           have B1:=blk_put (cs:=#[.slice none 0 0,.slice none 0 0,.slice none 0 0]) BRb.out 0 (.slice AM P.length cM) rfl
           have B2:=blk_put (cs:=#[.slice AM P.length cM,.slice none 0 0,.slice none 0 0]) B1 1 (.slice AL L.length cL) rfl
           have hne:∀ k_,some k_=(Value.slice AL L.length cL).ownBlock→k_ ≠ gR:=fun k_ hk he=>by
            obtain ⟨x_,e_⟩:=Kd.R_typed HLb.out k_ hk.symm
            rw [he,BRb.out] at e_
            simp at e_
           have sz:=HKp.out.1
           refine ⟨.slice AM P.length cM,.slice AL L.length cL,.slice AD D.length cD,fun k_=>(some k_ ≠ (Value.slice AL L.length cL).ownBlock∧k_ ≠ gM)∧w.heap.size≤k_∧k_ < wp.heap.size,fun k_=>some k_=(Value.slice AL L.length cL).ownBlock,fun k_=>wp.heap.size≤k_∧w.heap.size≤k_∧k_ < wb.heap.size,rfl,?_,?_,?_,?_,?_,?_,?_⟩
           ·exact Kd.S_set (Kd.S_set (Kd.S_set (Kd.S_kept (Kd.S_mono HSf.out (fun k_ hk=>⟨hk.1,hk.2.1,hk.2.2.1⟩)) HKp.out (fun k_ hk h=>hk.1.2 h)) BRb.out (by decide) 0 _) B1 (by decide) 1 _) B2 (by decide) 2 _
           ·exact Kd.R_step HLb.out (fun k_ hk _=>(Below.heap_setCell _ _ _ _ (hne k_ hk)).trans ((Below.heap_setCell _ _ _ _ (hne k_ hk)).trans (Below.heap_setCell _ _ _ _ (hne k_ hk))))
           ·exact Kd.S_set (Kd.S_set (Kd.S_set (Kd.S_mono (Kd.S_bound HD.out) (fun k_ hk=>⟨hk.1,hk.2.1,hk.2.2.1⟩)) BRb.out (by decide) 0 _) B1 (by decide) 1 _) B2 (by decide) 2 _
           ·exact fun k_ hk=>⟨hk.1.1,fun h2=>by omega⟩
           ·exact fun k_ hk h2=>by have h3:=Kd.R_lt HL.out k_ hk.symm;omega
           ·intro k_ hk
            have hs:((((wb.setCell ⟨gR,0,none⟩ (.slice AM P.length cM)).setCell ⟨gR,1,none⟩ (.slice AL L.length cL)).setCell ⟨gR,2,none⟩ (.slice AD D.length cD))).heap.size=wb.heap.size:=by simp
            rw [hs]
            rcases hk with hk|hk|hk
            ·exact ⟨hk.2.1,by omega⟩
            ·have h3:=Kd.R_lt HL.out k_ hk.symm
             have h4:=Kd.R_base HL.out k_ hk.symm
             exact ⟨h4,by omega⟩
            ·exact ⟨hk.2.1,hk.2.2⟩
           ·exact below_set (below_set (below_set HB5.out GR.out) GR.out) GR.out
 ·rw [if_neg hd] at h
  have HV:=zk (show impl_IsValidDfa.f l0 l1=some false by rw [show false=dfaB l0 l1 from (Bool.eq_false_iff.mpr hd).symm];rfl)
  obtain ⟨rfl,rfl,rfl,rfl⟩:r1 = []∧r2 = []∧r3 = []∧r4=false:=by
   have h2:=zi h
   simp only [Prod.mk.injEq] at h2
   exact ⟨h2.1.symm,h2.2.1.symm,h2.2.2.1.symm,h2.2.2.2.symm⟩
  clear h hd
  go_enter Try.func6,Try.ntmps6
  go_wp2_with (first
   | ((with_reducible refine gate_dst (N:=1) rfl ?_);refine zE (cs:=#[.slice A0 l0.length c0,.slice A1 l1.length c1]) (t:=27) ?_;intro gX hgX wX hbX hb;have HB1:=zk (below_step HB0.out hb);have BX:=zk hbX;have GX:=zk (show w.heap.size≤gX by rw [hgX];exact Nat.le_refl _);clear hbX hb hgX)
   | ((with_reducible refine gate_dst (N:=2) rfl ?_);refine zE (cs:=#[.slice none 0 0,.slice none 0 0,.slice none 0 0]) (t:=31) ?_;intro gR hgR wR hbR hb;have HB2:=zk (below_step HB1.out hb);have BX1:=zk (blk_below BX.out hb);have BR:=zk hbR;have GR:=zk (show w.heap.size≤gR by rw [hgR];exact below_size HB1.out);clear hbR hb hgR BX HB1;have hz0:wR.cell? ⟨gX,0,none⟩=some (.slice A0 l0.length c0):=(blk_cell BX1.out 0).trans rfl;have hf0:=blk_frozen BX1.out 0;have hz1:wR.cell? ⟨gX,1,none⟩=some (.slice A1 l1.length c1):=(blk_cell BX1.out 1).trans rfl;have hf1:=blk_frozen BX1.out 1)
   | (go_at_call 21;(with_reducible refine (impl_IsValidDfa.calls _ _ l0 _ _ l1 false _ ?s1 ?s2 ?s3 ?s4 HV.out).mono ?_);(case s1=>exact Kd.C_below HR0.out HB2.out);(case s2=>exact HC0.out);(case s3=>exact Kd.C_below HR1.out HB2.out);(case s4=>exact HC1.out);rintro e w3 ⟨rfl,hb⟩;have HB3:=zk (below_step HB2.out hb);have BX2:=zk (blk_below BX1.out hb);have BR1:=zk (blk_below BR.out hb);clear hb hz0 hf0 hz1 hf1 BX1 BR HB2;have hz4:w3.cell? ⟨gR,0,none⟩=some (.slice none 0 0):=(blk_cell BR1.out 0).trans rfl;have hz5:w3.cell? ⟨gR,1,none⟩=some (.slice none 0 0):=(blk_cell BR1.out 1).trans rfl;have hz6:w3.cell? ⟨gR,2,none⟩=some (.slice none 0 0):=(blk_cell BR1.out 2).trans rfl;have hf4:=blk_frozen BR1.out 0;have hf5:=blk_frozen BR1.out 1;have hf6:=blk_frozen BR1.out 2))
  refine bodyPost_ret (results_ct rfl _ _ gR 31 #[.slice none 0 0,.slice none 0 0,.slice none 0 0] (0,0) _ rfl (blk_put (cs:=#[.slice none 0 0,.slice none 0 0,.slice none 0 0]) (blk_put (cs:=#[.slice none 0 0,.slice none 0 0,.slice none 0 0]) (blk_put (cs:=#[.slice none 0 0,.slice none 0 0,.slice none 0 0]) BR1.out 0 _ rfl) 1 _ rfl) 2 _ rfl) Try.underlying31 rfl (by kernel_rfl)) rfl ?_
  exact ⟨.slice none 0 0,.slice none 0 0,.slice none 0 0,fun _=>False,fun _=>False,fun _=>False,rfl,Kd.S_nil _ _ _ _ _,Kd.R_nil _ _ _ _ _,Kd.S_nil _ _ _ _ _,fun _ h=>h.elim,fun _ h=>h.elim,fun _ h=>by simp at h,below_set (below_set (below_set HB3.out GR.out) GR.out) GR.out⟩
theorem impl_BuildMonoid.calls (k:Nat) (A0_0:Option Addr) (c0_0:Nat) (l0_0:List Bool) (A0_1:Option Addr) (c0_1:Nat) (l0_1:List (List Int)) (r1:List (List Int)) (r2:List Int) (r3:List (List Int)) (r4:Bool) (w:World) (hr0_0:Kd.C Kd.bool w A0_0 l0_0.length l0_0) (hc0_0:l0_0.length≤c0_0) (hr0_1:Kd.C kRw w A0_1 l0_1.length l0_1) (hc0_1:l0_1.length≤c0_1) (h:impl_BuildMonoid.f k l0_0 l0_1=some (r1,r2,r3,r4)) :
  Calls Try.prog 6 #[.agg #[.slice A0_0 l0_0.length c0_0,.slice A0_1 l0_1.length c0_1]] w fun e w'=>∃ v0_ v1_ v2_:Value,e = .returned (.tuple #[.agg #[v0_,v1_,v2_],.bool r4])∧Kd.S kRw 29 w' w.heap.size (fun k_=>some k_ ≠ (v1_:Value).ownBlock∧some k_ ≠ (v2_:Value).ownBlock) v0_ r1∧Kd.R (Kd.int .i64) 3 w' w.heap.size (fun _=>True) v1_ r2∧Kd.S kRw 29 w' w.heap.size (fun k_=>some k_ ≠ (v0_:Value).ownBlock∧some k_ ≠ (v1_:Value).ownBlock) v2_ r3∧Below w.heap.size w w':=by
 refine (build_monoid k A0_0 c0_0 l0_0 A0_1 c0_1 l0_1 r1 r2 r3 r4 w hr0_0 hc0_0 hr0_1 hc0_1 h).mono ?_
 rintro e w' ⟨v0,v1,v2,P0,P1,P2,he,h0,h1,h2,d1,d2,_,hb⟩
 have o1:∀ k_,some k_=v1.ownBlock→P1 k_:=fun k_ e_=>h1.1 k_ e_.symm
 have o0:∀ k_,some k_=v0.ownBlock→P0 k_:=fun k_ e_=>(Kd.S_R h0).1 k_ e_.symm
 have o2:∀ k_,some k_=v2.ownBlock→P2 k_:=fun k_ e_=>(Kd.S_R h2).1 k_ e_.symm
 exact ⟨v0,v1,v2,he,Kd.S_mono h0 (fun k_ hk=>⟨fun q=>(d1 k_ hk).1 (o1 _ q),fun q=>(d1 k_ hk).2 (o2 _ q)⟩),Kd.R_mono h1 (fun _ _=>trivial),Kd.S_mono h2 (fun k_ hk=>⟨fun q=>(d1 k_ (o0 _ q)).2 hk,fun q=>d2 k_ (o1 _ q) hk⟩),hb⟩
end Go.Proofs.Ythkbgoohiinmbaa.Ext
namespace Go.Proofs.Ythkbgoohiinmbaa.Ext
open Go Go.RowKit Go.Maps YthkbgoohiinmbaaW.PrintWords YthkbgoohiinmbaaW.PrintLast
theorem keyI:Keyed Try.prog 3:=int_keyed Try.underlying3
theorem zeroI (w:World):(zeroValue 3).run Try.prog w = .ok (.int .i64 0) w:=by kernel_rfl
def MapIs (w:World) (b n:Nat) (xs:List Int):Prop :=
 ∃ D:DataW Unit,w.ownsMap Try.prog 3 (plainElem Try.prog 3) b n D∧IsMap D∧∀ y:Int,Maps.has D (.int .i64 y)=decide (y ∈ xs)
theorem MapIs.made (w:World):MapIs (w.alloc (.map #[] 0)) w.heap.size 0 [] :=
 ⟨.map [],World.ownsMap_made _ _ _ _,⟨[],rfl⟩,fun y=>by simp [Maps.has]⟩
theorem MapIs.lt {w:World} {b n:Nat} {xs:List Int} (h:MapIs w b n xs):b < w.heap.size:=by
 obtain ⟨D,h,_⟩:=h
 exact h.lt
theorem MapIs.kept {w w':World} {b n:Nat} {xs:List Int} {row:Option Nat} (h:MapIs w b n xs) (hg:w.grownBy w' row) (hne:some b ≠ row):MapIs w' b n xs:=by
 obtain ⟨D,h,h1,h2⟩:=h
 exact ⟨D,h.kept hg hne,h1,h2⟩
theorem MapIs.below {w w':World} {b n:Nat} {xs:List Int} (h:MapIs w b n xs) (hb:Below w.heap.size w w'):MapIs w' b n xs:=by
 have hl:=h.lt
 obtain ⟨D,⟨es,clock,h0,h1⟩,h2⟩:=h
 exact ⟨D,⟨es,clock,(hb.block b hl).trans h0,h1⟩,h2⟩
theorem MapIs.drew {w:World} {b n:Nat} {xs:List Int} (h:MapIs w b n xs):MapIs w.drew b n xs:=h.below (below_drew1 (Below.refl _ _))
theorem MapIs.alloc {w:World} {b n:Nat} {xs:List Int} (h:MapIs w b n xs) (o:Obj):MapIs (w.alloc o) b n xs:=h.below (below_alloc (Below.refl _ _) o)
theorem MapIs.cell {w:World} {b n:Nat} {xs:List Int} (h:MapIs w b n xs) {t:TypeId} {cs:Array Value} {q:Nat × Nat} : w.heap[b]? ≠ some (.cells cs t q):=by
 obtain ⟨D,⟨es,clock,h0,_⟩,_⟩:=h
 rw [h0]
 intro e
 cases e
theorem MapIs.step {D D':DataW Unit} {xs:List Int} {y:Int} {d:DataW Unit} (h1:IsMap D) (h2:∀ y:Int,Maps.has D (.int .i64 y)=decide (y ∈ xs)):IsMap (D.put (.int .i64 y) d)∧∀ z:Int,Maps.has (D.put (.int .i64 y) d) (.int .i64 z)=decide (z ∈ xs ++ [y]):=by
 refine ⟨h1.put _ _,fun z=>?_⟩
 by_cases e:z=y
 ·subst e
  rw [has_put_same h1 (by exact trivial)]
  simp
 ·rw [has_put_other (by intro hh;injection hh with _ hh;exact e hh),h2]
  simp [e]
theorem wf_i64 {x:Int} (h0 : -9223372036854775808≤x) (h1:x≤9223372036854775807):(Lit.int .i64 x).wf=true:=WalkArith.wf_i64 ⟨h0,h1⟩
theorem map_insert {w:World} {ops:Array Oper} {rest:List Oper} {o:Oper} {a:Act} {Q:Exit→Act→World→Prop} (hg:o.guard=none) (m x v:Operand) (hop:o.op=Op.insert 79 m x v) (b n:Nat) (xs:List Int)
  (hm:a.eval m = .map (some b)) (hown:MapIs w b n xs) (hn:n < 9223372036854775807) (y c:Int) (hx:a.eval x = .int .i64 y) (hv:a.eval v = .int .i64 c) (wy:(Lit.int .i64 y).wf=true) (wc:(Lit.int .i64 c).wf=true)
  (hK:∀ w',MapIs w' b (n+1) (xs ++ [y])→w.grownBy w' (some b)→wpList Try.prog ops Q rest (a.put o.dst undef) w'):wpList Try.prog ops Q (o :: rest) a w:=by
 obtain ⟨D,hD,h1,h2⟩:=hown
 refine wpList_plain hg fun K' hK' => ?_
 obtain ⟨w',hrun,r1,r2⟩:=hD.update keyI Try.underlying79 (by unfold maxLen;omega) (keyOf_int_mk Try.underlying3 wy) (plainElem_int Try.underlying3 wc)
 unfold Oper.wp
 simp [execOp,hop,hm,hx,hv,hrun,Result.andThen]
 obtain ⟨g1,g2⟩:=MapIs.step (D':=D) (y:=y) (d:=.lit (.int .i64 c)) h1 h2
 exact hK' _ _ (hK w' ⟨_,r1,g1,g2⟩ r2)
theorem map_update {w:World} {ops:Array Oper} {rest:List Oper} {o:Oper} {a:Act} {Q:Exit→Act→World→Prop} (hg:o.guard=none) (m x v:Operand) (hop:o.op=Op.mapUpdate 79 m x v) (b n:Nat) (xs:List Int)
  (hm:a.eval m = .map (some b)) (hown:MapIs w b n xs) (hn:n < 9223372036854775807) (y c:Int) (hx:a.eval x = .int .i64 y) (hv:a.eval v = .int .i64 c) (wy:(Lit.int .i64 y).wf=true) (wc:(Lit.int .i64 c).wf=true)
  (hK:∀ w',MapIs w' b (n+1) (xs ++ [y])→w.grownBy w' (some b)→wpList Try.prog ops Q rest (a.put o.dst undef) w'):wpList Try.prog ops Q (o :: rest) a w:=by
 obtain ⟨D,hD,h1,h2⟩:=hown
 refine wpList_mapUpdate_own w hg m x v 79 hop 3 3 keyI Try.underlying79 (plainElem Try.prog 3) b n D hm hD (by unfold maxLen;omega) _ _ _ hx hv (keyOf_int_mk Try.underlying3 wy) _ [] (plainElem_int Try.underlying3 wc) fun w' r1 r2=>?_
 obtain ⟨g1,g2⟩:=MapIs.step (D':=D) (y:=y) (d:=.lit (.int .i64 c)) h1 h2
 exact hK w' ⟨_,r1,g1,g2⟩ r2
theorem map_lookup {w:World} {ops:Array Oper} {rest:List Oper} {o:Oper} {a:Act} {Q:Exit→Act→World→Prop} (hg:o.guard=none) (m x:Operand) (hop:o.op=Op.lookup 79 m x true) (b n:Nat) (xs:List Int)
  (hm:a.eval m = .map (some b)) (hown:MapIs w b n xs) (y:Int) (hx:a.eval x = .int .i64 y) (wy:(Lit.int .i64 y).wf=true) (r:Bool) (hr:decide (y ∈ xs)=r)
  (hK:∀ c:Int,wpList Try.prog ops Q rest (a.put o.dst (.tuple #[.int .i64 c,.bool r])) w):wpList Try.prog ops Q (o :: rest) a w:=by
 obtain ⟨D,hD,h1,h2⟩:=hown
 refine wpList_lookup_own_ok_int w hg m x 79 hop 3 3 .i64 keyI Try.underlying79 Try.underlying3 (zeroI w) b n D hm hD _ _ hx (keyOf_int_mk Try.underlying3 wy) fun c _ _=>?_
 rw [h2 y,hr]
 exact hK c
section
variable {P : Program} {ops : Array Oper} {rest : List Oper} {o : Oper} {a : Act} {Q : Exit → Act → World → Prop} {W : World}
theorem gate_insert {t:TypeId} {m x v:Operand} (_ho:o.op = .insert t m x v) (h:wpList P ops Q (o :: rest) a W):wpList P ops Q (o :: rest) a W:=h
theorem gate_update {t:TypeId} {m x v:Operand} (_ho:o.op = .mapUpdate t m x v) (h:wpList P ops Q (o :: rest) a W):wpList P ops Q (o :: rest) a W:=h
theorem gate_lookup {t:TypeId} {m x:Operand} {c:Bool} (_ho:o.op = .lookup t m x c) (h:wpList P ops Q (o :: rest) a W):wpList P ops Q (o :: rest) a W:=h
end
end Go.Proofs.Ythkbgoohiinmbaa.Ext
namespace Go.Proofs.Ythkbgoohiinmbaa.Ext
open Go Go.RowKit YthkbgoohiinmbaaW.PrintWords YthkbgoohiinmbaaW.PrintLast Ythkbgoohiinmbaa.A
def letB (j:Int):ByteArray:=(⟨#[97,98,99]⟩:ByteArray).extract (j:Int).toNat ((j+1):Int).toNat
mutual
def fwI (G:Int→Bool) (N:Int→Int→Int):Nat→List Int→List ByteArray→Int→Option (ByteArray × Bool)
 | 0,_,_,_=>none
 | k+1,xs,ws,i=>if i < (xs.length:Int) then (if G (rd xs i)=true then some (rdOf ByteArray.empty ws i,true) else fwJ G N k xs ws i 0) else some ((⟨#[]⟩:ByteArray),false)
def fwJ (G:Int→Bool) (N:Int→Int→Int):Nat→List Int→List ByteArray→Int→Int→Option (ByteArray × Bool)
 | 0,_,_,_,_=>none
 | k+1,xs,ws,i,j=>if j < 3 then (if decide (N (rd xs i) j ∈ xs)=true then fwJ G N k xs ws i (j+1) else if xs.length < 4000000∧(rdOf ByteArray.empty ws i).size≤4000000 then fwJ G N k (xs ++ [N (rd xs i) j]) (ws ++ [rdOf ByteArray.empty ws i ++ letB j]) i (j+1) else none) else fwI G N k xs ws (i+1)
end
theorem R_map {α:Type} {d:Kd α} {e base:Nat} {ok:Nat→Prop} {w w1:World} {v:Value} {xs:List α} {b n:Nat} {ys:List Int} (h:d.R e w base ok v xs) (hE:d.E = []) (hp:0 < xs.length) (hm:MapIs w b n ys) (hg:w.grownBy w1 (some b)):d.R e w1 base ok v xs:=by
 refine Kd.R_grown2 h hE hg fun k hk=>?_
 obtain ⟨g,cap,rfl,_,_,cells,hc⟩:=Kd.R_form h hp
 intro e'
 injection hk with hk
 subst hk
 have:b=g:=by simpa [Value.ownBlock] using e'
 subst this
 exact hm.cell hc
theorem map_R {α:Type} {d:Kd α} {e base:Nat} {ok:Nat→Prop} {w w1:World} {v:Value} {xs:List α} {b n:Nat} {ys:List Int} (h:d.R e w base ok v xs) (hp:0 < xs.length) (hm:MapIs w b n ys) (hg:w.grownBy w1 v.ownBlock):MapIs w1 b n ys:=by
 refine hm.kept hg ?_
 obtain ⟨g,cap,rfl,_,_,cells,hc⟩:=Kd.R_form h hp
 intro e'
 have:b=g:=by simpa [Value.ownBlock] using e'
 subst this
 exact hm.cell hc
def fw_T:Bool × List (List Nat × List Nat):=(true,[([],[]),([],[]),([],[]),([1,2],[1,2]),([3],[3]),([],[]),([],[]),([6],[6]),([5,7],[5,7]),([4,8],[4,8]),([9],[9]),([0,10],[0,10]),([11,11,0,1,2,3,4,5,6,7,8,9,10,11],[0,1,11])])
def fw_B:List Nat:=[0,0,0,6,14,0,0,64,224,510,1022,2047,4095]
theorem fw_tab:rtab .any (opsOf Try.f40 17)=fw_T:=by kernel_rfl
theorem fw_bits:waitsOk fw_T.2 fw_B=true:=by kernel_rfl
theorem rd_mem {xs:List Int} {i:Int} (h0:0≤i) (h1:i < (xs.length:Int)):rd xs i ∈ xs:=by
 have hi:i.toNat < xs.length:=by omega
 unfold rd
 rw [List.getD_eq_getElem?_getD,List.getElem?_eq_getElem hi]
 exact List.getElem_mem hi
set_option maxHeartbeats 4000000 in
theorem first_word (G:Int→Bool) (N:Int→Int→Int) (n:Nat) (hn1:n≤4000000) (g1:Nat) (lb1:Array Value) (eg1:∀ args w,(callFunc g1 args).run Try.prog w = .ok (.enter g1 args) w) (g2:Nat) (lb2:Array Value) (eg2:∀ args w,(callFunc g2 args).run Try.prog w = .ok (.enter g2 args) w)
  (k:Nat) (r1:ByteArray) (r2:Bool) (w:World) (hn:0 < n) (hN:∀ x j:Int,0≤x→x < n→0≤j→j < 3→0≤N x j∧N x j < n)
  (hg:∀ (x:Int) (W:World),0≤x→x < n→Below w.heap.size w W→Calls Try.prog g1 (#[.int .i64 x] ++ lb1) W fun e W'=>e = .returned (.bool (G x))∧Below W.heap.size W W')
  (hx:∀ (x j:Int) (W:World),0≤x→x < n→0≤j→j < 3→Below w.heap.size w W→Calls Try.prog g2 (#[.int .i64 x,.int .i64 j] ++ lb2) W fun e W'=>e = .returned (.int .i64 (N x j))∧Below W.heap.size W W')
  (h:fwI G N k [0] [(⟨#[]⟩:ByteArray)] 0=some (r1,r2)) :
  Calls Try.prog 40 #[.int .i64 0,.func (.func g1) #[] lb1,.func (.func g2) #[] lb2] w fun e w'=>e = .returned (.tuple #[.string r1,.bool r2])∧Below w.heap.size w w':=by
 have HB:=zk (Below.refl w.heap.size w)
 have H':=zk h
 have HG:=zk hg
 have HX:=zk hx
 have HN:=zk hN
 have Hn:=zk hn
 have Hn1:=zk hn1
 clear h hg hx hN hn hn1
 have hmm:=@run_makeMap Try.prog
 go_enter Try.func40,Try.ntmps40
 go_wp2_with (first
  | ((with_reducible refine gate_dst (N:=17) rfl ?_);refine Kd.R_lit (Kd.int .i64) _ 3 ?hg (N:=17) ?hd (xs:=([0]:List Int)) (inner:=[.int .i64 0]) (ok:=fun _=>True) (okp:=fun _=>True) ?hr ?hp (fun _ hk=>hk) trivial (Below.refl _ _) (Nat.le_refl _) (by simp) ?_;(case hd=>rfl);(case hg=>rfl);(case hr=>first|(go_simp;done)|(go_simp;rfl));(case hp=>exact (Reps.one (show Kd.M (Kd.int .i64) _ _ _ 0 [.int .i64 0] from rfl) (Reps.none _ _)));intro v8 w8 ho8 hb hg_ hnew_;clear hg_ hnew_;have n0_:=zk (Kd.R_lower ho8 HB.out.size);have n1_:=zk (below_step HB.out hb);clear HB hb ho8;have HO8:=n0_;have HB:=n1_;clear n0_ n1_)
  | ((with_reducible refine gate_dst (N:=18) rfl ?_);refine Kd.R_lit Kd.string _ 9 ?hg (N:=18) ?hd (xs:=([⟨#[]⟩]:List ByteArray)) (inner:=[.string ⟨#[]⟩]) (ok:=fun _=>True) (okp:=fun _=>True) ?hr ?hp (fun _ hk=>hk) trivial (Below.refl _ _) (Nat.le_refl _) (by simp) ?_;(case hd=>rfl);(case hg=>rfl);(case hr=>first|(go_simp;done)|(go_simp;rfl));(case hp=>exact (Reps.one (show Kd.M Kd.string _ _ _ (⟨#[]⟩:ByteArray) [.string ⟨#[]⟩] from rfl) (Reps.none _ _)));intro v9 w9 ho9 hb hg_ hnew_;clear hg_ hnew_;have n0_:=zk (Kd.R_lower ho9 (below_size (by repeat (first|exact HB.out|apply pw_below_drewN|apply below_drew1))));have n1_:=zk (Kd.R_below (za1 HO8.out) hb);have n2_:=zk (below_step (by repeat (first|exact HB.out|apply pw_below_drewN|apply below_drew1)) hb);clear HB hb ho9 HO8;have HO9:=n0_;have HO8:=n1_;have HB:=n2_;clear n0_ n1_ n2_)
  | ((with_reducible refine gate_insert (t:=79) rfl ?_);refine map_insert rfl _ _ _ rfl w9.heap.size 0 [] rfl (MapIs.made w9) (by decide) 0 0 rfl rfl (by decide) (by decide) ?_;intro w10 hm10 hg10;have GE:=zk HB.out.size;have n0_:=zk (R_map (Kd.R_alloc HO8.out _) rfl (by simp) (MapIs.made w9) hg10);have n1_:=zk (R_map (Kd.R_alloc HO9.out _) rfl (by simp) (MapIs.made w9) hg10);have n2_:=zk (Below.grown (below_alloc HB.out _) hg10 (below_size (below_alloc HB.out _)) (fun k hk=>by injection hk with hk;rw [← hk];exact HB.out.size));have n3_:=zk hm10;clear HO8 HO9 HB hm10 hg10;have HO8:=n0_;have HO9:=n1_;have HB:=n2_;have HM:=n3_;clear n0_ n1_ n2_ n3_))
 clear hmm
 go_loopg [8,9,11] k (fun kq v8 v9 v11 w'=>∃ (xs:List Int) (ws:List ByteArray) (i:Int) (m:Nat),v11 = .int .i64 i∧Aside0 (fwI G N kq xs ws i=some (r1,r2))∧Aside0 (kq≤k)∧Aside0 (0≤i∧i≤xs.length)∧Aside0 (0 < xs.length∧xs.length=ws.length∧m≤xs.length)∧Aside0 (∀ x ∈ xs,0≤x∧x < n)∧Aside0 (xs.length≤4000000)∧Aside0 (Kd.R (Kd.int .i64) 3 w' w.heap.size (fun _=>True) v8 xs)∧Aside0 (Kd.R Kd.string 9 w' w.heap.size (fun _=>True) v9 ws)∧Aside0 (MapIs w' w9.heap.size m xs)∧Aside0 (Below w.heap.size w w'))
 case atStart=>exact ⟨[0],[(⟨#[]⟩:ByteArray)],0,1,(by first|rfl|(simp;done)),H',⟨Nat.le_refl _⟩,⟨by simp⟩,⟨by simp⟩,⟨by have:=Hn.out;simp;omega⟩,⟨by simp⟩,⟨za1 HO8.out⟩,⟨za1 HO9.out⟩,⟨za33⟩,⟨za23⟩⟩
 case round =>
  clear H' HO8 HO9 HM HB
  obtain ⟨xs,ws,i,m,rfl,HA,HK1,HI,HL,HR,HS,HO8,HO9,HM,HB⟩:=hrel
  cases gk with
  | zero=>exact absurd HA.out (by simp [fwI])
  | succ k1 =>
   have H:=HA.out
   clear HA
   simp only [fwI] at H
   by_cases c1:i < (xs.length:Int)
   ·rw [if_pos c1] at H
    have hxi:=HR.out _ (rd_mem HI.out.1 c1)
    have hcall:=HG.out (rd xs i) wr hxi.1 hxi.2 HB.out
    have c1b0:decide (i < (xs.length:Int))=true:=decide_eq_true c1
    have p1:=HI.out.1
    have q2:i < (ws.length:Int):=by have:=HL.out.2.1;omega
    obtain ⟨Ao,co,eo⟩:=Kd.R_slice HO8.out
    subst eo
    obtain ⟨ad,e1,hx1⟩:=Kd.at_int (Kd.R_reads' HO8.out).2.2 i p1 c1
    cases e1
    cases hGx:G (rd xs i) with
    | true =>
     rw [hGx] at hcall H
     simp only [if_true,Option.some.injEq,Prod.mk.injEq] at H
     obtain ⟨rfl,rfl⟩:=H
     obtain ⟨Ap,cp,ep⟩:=Kd.R_slice HO9.out
     subst ep
     obtain ⟨ae,e2,hx2⟩:=Kd.at_string (Kd.R_reads' HO9.out).2.2 i p1 q2
     cases e2
     have HC:=zk hcall
     clear hcall HG HX
     have q1:=eq_true c1
     replace p1:=eq_true p1
     replace q2:=eq_true q2
     clear c1
     go_wp2_with (go_at_fn g1;refine HC.out.mono ?_;rintro e w2 ⟨rfl,hb2⟩;replace hx2:=pw_cell_below hb2 hx2;have n0_:=zk (below_step HB.out hb2);clear HB hb2;have HB:=n0_;clear n0_)
     go_ret2
     exact ⟨rfl,za23⟩
    | false =>
     rw [hGx] at hcall H
     simp only [Bool.false_eq_true,if_false] at H
     have HH:=zk H
     have HC:=zk hcall
     clear hcall H
     have q1:=eq_true c1
     have HI2:=zk (And.intro p1 c1)
     replace p1:=eq_true p1
     clear c1 q2
     go_wp2_with (go_at_fn g1;refine HC.out.mono ?_;rintro e w2 ⟨rfl,hb2⟩;have n0_:=zk (below_step HB.out hb2);have n1_:=zk (Kd.R_below HO8.out hb2);have n2_:=zk (Kd.R_below HO9.out hb2);have n3_:=zk (HM.out.below hb2);clear HB HO8 HO9 HM hb2;have HB:=n0_;have HO8:=n1_;have HO9:=n2_;have HM:=n3_;clear n0_ n1_ n2_ n3_)
     go_loopg [8,9,38] k1 (fun kq v8 v9 v38 w'=>∃ (xs2:List Int) (ws2:List ByteArray) (j:Int) (m2:Nat),v38 = .int .i64 j∧Aside0 (fwJ G N kq xs2 ws2 i j=some (r1,r2))∧Aside0 (kq≤k1)∧Aside0 (0≤i∧i < xs2.length)∧Aside0 (0≤j∧j≤3)∧Aside0 (xs2.length=ws2.length∧m2≤xs2.length)∧Aside0 (∀ x ∈ xs2,0≤x∧x < n)∧Aside0 (xs2.length≤4000000)∧Aside0 (Kd.R (Kd.int .i64) 3 w' w.heap.size (fun _=>True) v8 xs2)∧Aside0 (Kd.R Kd.string 9 w' w.heap.size (fun _=>True) v9 ws2)∧Aside0 (MapIs w' w9.heap.size m2 xs2)∧Aside0 (Below w.heap.size w w'))
     case atStart=>exact ⟨xs,ws,0,m,(by first|rfl|(simp;done)),HH,⟨Nat.le_refl _⟩,HI2,⟨by omega⟩,⟨HL.out.2⟩,HR,HS,⟨za1 HO8.out⟩,⟨za1 HO9.out⟩,⟨za33⟩,⟨za23⟩⟩
     case round =>
      clear HH HC HI HI2 HL HR HS HO8 HO9 HM HB
      try clear p1
      try clear q1
      try clear hx1
      try clear hxi
      try clear c1b0
      obtain ⟨xs2,ws2,j,m2,rfl,HA,HK2,HI,HJ,HL,HR,HS,HO8,HO9,HM,HB⟩:=hrel
      cases gk with
      | zero=>exact absurd HA.out (by simp [fwJ])
      | succ k2 =>
       have H:=HA.out
       clear HA
       simp only [fwJ] at H
       by_cases c2:j < 3
       ·rw [if_pos c2] at H
        have hxi:=HR.out _ (rd_mem HI.out.1 HI.out.2)
        have hcall:=HX.out (rd xs2 i) j wr hxi.1 hxi.2 HJ.out.1 c2 HB.out
        have hrange:=HN.out (rd xs2 i) j hxi.1 hxi.2 HJ.out.1 c2
        generalize N (rd xs2 i) j=y at H hcall hrange
        have c2b0:decide (j < 3)=true:=decide_eq_true c2
        have HJ2:=zk c2
        have HY:=zk hrange
        clear c2 hrange
        have p1:=eq_true HI.out.1
        have q1:=eq_true HI.out.2
        obtain ⟨Ao,co,eo⟩:=Kd.R_slice HO8.out
        subst eo
        obtain ⟨ad,e1,hx1⟩:=Kd.at_int (Kd.R_reads' HO8.out).2.2 i HI.out.1 HI.out.2
        cases e1
        have HC:=zk hcall
        clear hcall HX HG
        cases hmem:decide (y ∈ xs2) with
        | true =>
         rw [hmem] at H
         simp only [if_true] at H
         have HH:=zk H
         clear H
         go_wp2_with (first
          | (go_at_fn g2;refine HC.out.mono ?_;rintro e w2 ⟨rfl,hb2⟩;have n0_:=zk (below_step HB.out hb2);have n1_:=zk (Kd.R_below HO8.out hb2);have n2_:=zk (Kd.R_below HO9.out hb2);have n3_:=zk (HM.out.below hb2);clear HB HO8 HO9 HM hb2;have HB:=n0_;have HO8:=n1_;have HO9:=n2_;have HM:=n3_;clear n0_ n1_ n2_ n3_)
          | ((with_reducible refine gate_lookup (t:=79) (c:=true) rfl ?_);refine map_lookup rfl _ _ rfl w9.heap.size m2 xs2 rfl za33 y rfl (wf_i64 (by have:=HY.out.1;omega) (by have:=HY.out.2;have:=Hn1.out;omega)) true hmem ?_;intro cc))
         go_roundg k2
         case measure=>have:=HK1.out;have:=HK2.out;omega
         case rel=>exact ⟨xs2,ws2,j+1,m2,(by have:=HJ.out;have:=HJ2.out;first|rfl|(rw [show wrap64 (j+1)=j+1 by unfold wrap64;omega];done)),HH,⟨by have:=HK2.out;omega⟩,HI,⟨by have:=HJ.out;have:=HJ2.out;omega⟩,HL,HR,HS,⟨za1 HO8.out⟩,⟨za1 HO9.out⟩,⟨za33⟩,⟨za23⟩⟩
        | false =>
         rw [hmem] at H
         simp only [Bool.false_eq_true,if_false] at H
         by_cases c3:xs2.length < 4000000∧(rdOf ByteArray.empty ws2 i).size≤4000000
         ·rw [if_pos c3] at H
          have HH:=zk H
          have H3:=zk c3
          clear H c3
          obtain ⟨Ap,cp,ep⟩:=Kd.R_slice HO9.out
          subst ep
          have q2':i < (ws2.length:Int):=by have:=HL.out.1;have:=HI.out.2;omega
          have Q2:=zk q2'
          have q2:=eq_true q2'
          clear q2'
          have wy:(Lit.int .i64 y).wf=true:=wf_i64 (by have:=HY.out.1;omega) (by have:=HY.out.2;have:=Hn1.out;omega)
          go_wp2_with (first
           | (go_at_fn g2;refine HC.out.mono ?_;rintro e w2 ⟨rfl,hb2⟩;have n0_:=zk (below_step HB.out hb2);have n1_:=zk (Kd.R_below HO8.out hb2);have n2_:=zk (Kd.R_below HO9.out hb2);have n3_:=zk (HM.out.below hb2);clear HB HO8 HO9 HM hb2;have HB:=n0_;have HO8:=n1_;have HO9:=n2_;have HM:=n3_;clear n0_ n1_ n2_ n3_)
           | ((with_reducible refine gate_lookup (t:=79) (c:=true) rfl ?_);refine map_lookup rfl _ _ rfl w9.heap.size m2 xs2 rfl za33 y rfl wy false hmem ?_;intro cc)
           | ((with_reducible refine gate_update (t:=79) rfl ?_);refine map_update rfl _ _ _ rfl w9.heap.size m2 xs2 rfl za33 (by have:=HL.out.2;have:=H3.out.1;omega) y _ rfl rfl wy (wf_i64 (by omega) (by have:=H3.out.1;omega)) ?_;intro w4 hm4 hg4;have n0_:=zk (R_map (za1 HO8.out) rfl (by have:=HI.out;omega) za33 hg4);have n1_:=zk (R_map (za1 HO9.out) rfl (by have:=HI.out;have:=HL.out.1;omega) za33 hg4);have n2_:=zk (Below.grown (za23:Below w.heap.size w _) hg4 (below_size za23) (fun k hk=>by injection hk with hk;rw [← hk];exact GE.out));have n3_:=zk hm4;clear HO8 HO9 HB HM hm4 hg4;have HO8:=n0_;have HO9:=n1_;have HB:=n2_;have HM:=n3_;clear n0_ n1_ n2_ n3_)
           | ((with_reducible refine gate_builtin (b:=.append) (xs:=#[.tmp 60,.tmp 62]) rfl ?_);at_builtin;refine Kd.R_append (Kd.int .i64) (w0:=w) w.heap.size rfl (.tmp 60) (.tmp 62) 29 3 (.int .i64 0) 8 rfl Try.underlying29 info3 rfl (by decide) (by omega) (.slice (some ad) xs2.length co) xs2 y [.int .i64 y] (fun _=>True) (fun _=>False) rfl rfl ?aP (fun _ hk=>hk.elim) ?aF ?aO ?aB ?aS ?aL ?_;(case aP=>exact rfl);(case aB=>exact za23);(case aF=>exact (fun _ _=>trivial));(case aO=>exact (za1 HO8.out));(case aS=>exact (below_size za23));(case aL=>have:=H3.out.1;omega);intro v5 w5 ho hb hg hat;have n0_:=zk (Kd.R_over' (za1 HO9.out) (Kd.R_typed (za1 HO8.out)) (by decide) hg);have n1_:=zk (map_R (za1 HO8.out) (by have:=HI.out;omega) za33 hg);have n2_:=zk hb;have n3_:=zk ho;clear HO8 HO9 HB HM ho hb hg hat;have HO9:=n0_;have HM:=n1_;have HB:=n2_;have HO8:=n3_;clear n0_ n1_ n2_ n3_;obtain ⟨ae,e2,hx2⟩:=Kd.at_string (Kd.R_reads' HO9.out).2.2 i HI.out.1 Q2.out;cases e2))
          have hw1:wrap64 (j+1)=j+1:=by have:=HJ.out;have:=HJ2.out;unfold wrap64;omega
          have z32:0≤j:=HJ.out.1
          have z33:j≤wrap64 (j+1):=by rw [hw1];omega
          have z34:wrap64 (j+1)≤3:=by rw [hw1];have:=HJ2.out;omega
          have z35:(rdOf ByteArray.empty ws2 i).size+((⟨#[97,98,99]⟩:ByteArray).extract (j:Int).toNat ((wrap64 (j+1)):Int).toNat).size≤9223372036854775807:=by rw [ByteArray.size_extract];have:=H3.out.2;have:(⟨#[97,98,99]⟩:ByteArray).size=3:=rfl;omega
          have HW1:=zk hw1
          clear hw1
          have c32b0:=eq_true z32
          have c33b0:=eq_true z33
          have c33b1:decide (j≤(wrap64 (j+1)))=true:=decide_eq_true z33
          have c34b0:=eq_true z34
          have c34b1:decide ((wrap64 (j+1))≤3)=true:=decide_eq_true z34
          have c35z:=z35
          try simp at c35z
          have c35b0:=eq_true z35
          have c35b1:decide ((rdOf ByteArray.empty ws2 i).size+((⟨#[97,98,99]⟩:ByteArray).extract (j:Int).toNat ((wrap64 (j+1)):Int).toNat).size≤9223372036854775807)=true:=decide_eq_true z35
          have c35b2:(9223372036854775807 < (rdOf ByteArray.empty ws2 i).size+((⟨#[97,98,99]⟩:ByteArray).extract (j:Int).toNat ((wrap64 (j+1)):Int).toNat).size)=False:=eq_false (Nat.not_lt.2 z35)
          clear z32 z33 z34 z35
          have n0_:=zk (Kd.R_drew HO9.out)
          have n1_:=zk (Kd.R_drew HO8.out)
          have n2_:=zk (HM.out.drew)
          have n3_:=zk (below_drew1 HB.out)
          clear HO9 HO8 HM HB
          have HO9:=n0_
          have HO8:=n1_
          have HM:=n2_
          have HB:=n3_
          clear n0_ n1_ n2_ n3_
          have HS2:Aside0 (ws2.length < 8796093022208):=⟨by have:=H3.out.1;have:=HL.out.1;omega⟩
          refine start_ (n:=13) (S:=fun w'=>w'.cell? (ae.add (i).toNat)=some (.string (rdOf ByteArray.empty ws2 i))) (ds:=[10,11]) #[false,false,false,false,false,false,false,false,false,false,false,false,false] (by kernel_rfl) rfl rfl (hx2) (fun hHeld=>?_);refine with_tabW fw_tab fw_bits (fun HT_ HW_=>?_)
          generalize w5.drew=w6 at HO9 HO8 HM HB hx2 hHeld ⊢
          refine pure_ (i:=0) (N:=some 64) (v:=?_) (a':=?_) #[true,false,false,false,false,false,false,false,false,false,false,false,false] rfl rfl (any_of HT_.out (by kernel_rfl)) (fun _ _ _ h=>h) (Or.inl ⟨by rfl,?_⟩) ?_ ?_
          rotate_left
          ·intro w'
           go_simp
           exact zr1
          rotate_left
          ·simp only [Act.put,zt,zu,zv,i64_w,i32_w]
           rfl
          refine pure_ (i:=1) (N:=some 65) (v:=?_) (a':=?_) #[true,true,false,false,false,false,false,false,false,false,false,false,false] rfl rfl (any_of HT_.out (by kernel_rfl)) (fun _ _ _ h=>h) (Or.inl ⟨by rfl,?_⟩) ?_ ?_
          rotate_left
          ·intro w'
           go_simp
           exact zr1
          rotate_left
          ·simp only [Act.put,zt,zu,zv,i64_w,i32_w]
           rfl
          refine pure_ (i:=2) (N:=some 66) (v:=?_) (a':=?_) #[true,true,true,false,false,false,false,false,false,false,false,false,false] rfl rfl (any_of HT_.out (by kernel_rfl)) (fun _ _ _ h=>h) (Or.inl ⟨by rfl,?_⟩) ?_ ?_
          rotate_left
          ·intro w'
           go_simp
           exact zr1
          rotate_left
          ·simp only [Act.put,zt,zu,zv,i64_w,i32_w]
           rfl
          refine pure_ (i:=3) (N:=some 67) (v:=?_) (a':=?_) #[true,true,true,true,false,false,false,false,false,false,false,false,false] rfl rfl (any_of HT_.out (by kernel_rfl)) (fun _ _ _ h=>h) (Or.inl ⟨by rfl,?_⟩) ?_ ?_
          rotate_left
          ·intro w'
           go_simp
           exact zr1
          rotate_left
          ·simp only [Act.put,zt,zu,zv,i64_w,i32_w]
           rfl
          refine pure_ (i:=5) (N:=some 69) (v:=?_) (a':=?_) #[true,true,true,true,false,true,false,false,false,false,false,false,false] rfl rfl (any_of HT_.out (by kernel_rfl)) (fun _ _ _ h=>h) (Or.inl ⟨by rfl,?_⟩) ?_ ?_
          rotate_left
          ·intro w'
           go_simp
           exact zr1
          rotate_left
          ·simp only [Act.put,zt,zu,zv,i64_w,i32_w]
           rfl
          refine pure_ (i:=6) (N:=some 70) (v:=?_) (a':=?_) #[true,true,true,true,false,true,true,false,false,false,false,false,false] rfl rfl (any_of HT_.out (by kernel_rfl)) (fun _ _ _ h=>h) (Or.inl ⟨by rfl,?_⟩) ?_ ?_
          rotate_left
          ·intro w'
           go_simp
           exact zr1
          rotate_left
          ·simp only [Act.put,zt,zu,zv,i64_w,i32_w]
           rfl
          refine pure_ (i:=7) (N:=some 71) (v:=?_) (a':=?_) #[true,true,true,true,false,true,true,true,false,false,false,false,false] rfl rfl (any_of HT_.out (by kernel_rfl)) (fun _ _ _ h=>h) (Or.inl ⟨by rfl,?_⟩) ?_ ?_
          rotate_left
          ·intro w'
           go_simp
           exact zr1
          rotate_left
          ·simp only [Act.put,zt,zu,zv,i64_w,i32_w]
           rfl
          refine pure_ (i:=8) (N:=some 72) (v:=?_) (a':=?_) #[true,true,true,true,false,true,true,true,true,false,false,false,false] rfl rfl (any_of HT_.out (by kernel_rfl)) (fun _ _ _ h=>h) (Or.inl ⟨by rfl,?_⟩) ?_ ?_
          rotate_left
          ·intro w'
           go_simp
           exact zr1
          rotate_left
          ·simp only [Act.put,zt,zu,zv,i64_w,i32_w]
           rfl
          refine take_ (i:=4) (N:=some 68) (v:=?_) (a':=?_) #[true,true,true,true,true,true,true,true,true,false,false,false,false] rfl rfl (take_ofW HT_.out HW_.out (by kernel_rfl)) (fun _ _ _ h=>h) (Or.inl ⟨by rfl,?_⟩) hHeld ?_ ?_
          rotate_left
          ·intro w' s0
           go_simp
           exact zr1
          rotate_left
          ·simp only [Act.put,zt,zu,zv,i64_w,i32_w]
           rfl
          refine pure_ (i:=9) (N:=some 73) (v:=?_) (a':=?_) #[true,true,true,true,true,true,true,true,true,true,false,false,false] rfl rfl (any_of HT_.out (by kernel_rfl)) (fun _ _ _ h=>h) (Or.inl ⟨by rfl,?_⟩) ?_ ?_
          rotate_left
          ·intro w'
           go_simp
           exact zr1
          rotate_left
          ·simp only [Act.put,zt,zu,zv,i64_w,i32_w]
           rfl
          refine last_ (i:=10) (N:=some 74) #[true,true,true,true,true,true,true,true,true,true,true,false,false] rfl rfl (one_of HT_.out (by kernel_rfl)) (by decide) (fun K hK=>?_)
          refine value_ (w1:=?_) (v:=?_) (by rfl) rfl ?_ ?_
          rotate_left 2
          ·go_simp
           constructor
           ·rfl
           ·rfl
          refine hK.out _ _ ?_
          clear hK K
          refine norm_ (a':=?_) ?_ ?_
          rotate_left
          ·show Act.put _ (some 74) _=_
           simp only [Act.put,zt,zu,zv,i64_w,i32_w]
           rfl
          refine last_ (i:=11) (N:=some 75) #[true,true,true,true,true,true,true,true,true,true,true,true,false] rfl rfl (one_of HT_.out (by kernel_rfl)) (by decide) (fun K hK=>?_)
          refine Kd.R_append_step Kd.string (w0:=w) w.heap.size (by rfl) (.tmp 64) (.tmp 74) 35 9 (.string ⟨#[]⟩) 16 rfl Try.underlying35 info9 rfl (by decide) (by omega) (.slice (some ae) ws2.length cp) ws2 ((rdOf ByteArray.empty ws2 i) ++ ((⟨#[97,98,99]⟩:ByteArray).extract (j:Int).toNat ((wrap64 (j+1)):Int).toNat)) [.string ((rdOf ByteArray.empty ws2 i) ++ ((⟨#[97,98,99]⟩:ByteArray).extract (j:Int).toNat ((wrap64 (j+1)):Int).toNat))] (fun _=>True) (fun _=>False) rfl rfl ?aP (fun _ hk=>hk.elim) ?aF ?aO ?aB ?aS ?aL ?_
          (case aP=>exact rfl)
          (case aB=>exact za23)
          (case aF=>exact (fun _ _=>trivial))
          (case aO=>exact (za1 HO9.out))
          (case aS=>exact (below_size za23))
          (case aL=>have:=HS2.out;omega)
          intro v7 w7 ho hb hg hat
          have n0_:=zk (map_R (za1 HO9.out) (by have:=HI.out;have:=HL.out.1;omega) za33 hg)
          have n1_:=zk (Kd.R_over' (za1 HO8.out) (Kd.R_typed (za1 HO9.out)) (by decide) hg)
          have n2_:=zk hb
          have n3_:=zk ho
          clear HM
          clear HO8
          clear HB
          clear HO9
          have HM:=n0_
          have HO8:=n1_
          have HB:=n2_
          have HO9b:=n3_
          clear n0_ n1_ n2_ n3_
          clear ho hb hg hat
          refine hK.out _ _ ?_
          clear hK K
          refine norm_ (a':=?_) ?_ ?_
          rotate_left
          ·show Act.put _ (some 75) _=_
           simp only [Act.put,zt,zu,zv,i64_w,i32_w]
           rfl
          refine pure_ (i:=12) (N:=some 9) (v:=?_) (a':=?_) #[true,true,true,true,true,true,true,true,true,true,true,true,true] rfl rfl (any_of HT_.out (by kernel_rfl)) (fun _ _ _ h=>h) (Or.inl ⟨by rfl,?_⟩) ?_ ?_
          rotate_left
          ·intro w'
           go_simp
           exact zr1
          rotate_left
          ·simp only [Act.put,zt,zu,zv,i64_w,i32_w]
           rfl
          refine done_ (done_of HT_.out (by kernel_rfl)) ?_
          try go_wp2
          go_roundg k2
          case measure=>have:=HK1.out;have:=HK2.out;omega
          case rel =>
           have HO9c:Aside0 (Kd.R Kd.string 9 w7 w.heap.size (fun _=>True) v7 (ws2 ++ [rdOf ByteArray.empty ws2 i ++ letB j])):=⟨by unfold letB;rw [← HW1.out];exact HO9b.out⟩
           exact ⟨xs2 ++ [y],ws2 ++ [rdOf ByteArray.empty ws2 i ++ letB j],j+1,m2+1,(by have:=HW1.out;first|rfl|(rw [this];done)),HH,⟨by have:=HK2.out;omega⟩,⟨by have:=HI.out;simp;omega⟩,⟨by have:=HJ.out;have:=HJ2.out;omega⟩,⟨by have:=HL.out;simp;omega⟩,⟨fun x hx=>by
            rcases List.mem_append.1 hx with hx|hx
            ·exact HR.out x hx
            ·rw [List.mem_singleton.1 hx];exact HY.out⟩,⟨by have:=H3.out.1;simp;omega⟩,⟨za1 HO8.out⟩,⟨za1 HO9c.out⟩,⟨za33⟩,⟨za23⟩⟩
         ·rw [if_neg c3] at H
          exact absurd H (by simp)
       ·rw [if_neg c2] at H
        have HH:=zk H
        have c2b0:decide (j < 3)=false:=decide_eq_false c2
        clear H c2
        go_wp2
        go_roundg k2
        case measure=>have:=HK1.out;have:=HK2.out;omega
        case rel=>exact ⟨xs2,ws2,i+1,m2,(by have:=HI.out;have:=HS.out;first|rfl|(rw [show wrap64 (i+1)=i+1 by unfold wrap64;omega];done)),HH,⟨za59⟩,⟨by have:=HI.out;omega⟩,⟨by have:=HI.out;have:=HL.out;omega⟩,HR,HS,⟨za1 HO8.out⟩,⟨za1 HO9.out⟩,⟨za33⟩,⟨za23⟩⟩
   ·rw [if_neg c1] at H
    have c1b0:decide (i < (xs.length:Int))=false:=decide_eq_false c1
    clear c1
    simp only [Option.some.injEq,Prod.mk.injEq] at H
    obtain ⟨rfl,rfl⟩:=H
    obtain ⟨Ao,co,eo⟩:=Kd.R_slice HO8.out
    subst eo
    go_wp2
    go_ret2
    exact ⟨rfl,za23⟩
end Go.Proofs.Ythkbgoohiinmbaa.Ext
namespace Go.Proofs.Ythkbgoohiinmbaa.Ext
open Go.RowKit YthkbgoohiinmbaaW.PrintWords YthkbgoohiinmbaaW.PrintLast Ythkbgoohiinmbaa.A
-- EXT loop.example/g00582/impl.WordOfMap making
def nextW (L:List Int) (P:List (List Int)) (x j:Int):Int:=rd (P.getD x.toNat []) (rd L j)
def impl_WordOfMap.f (l0_0:List (List Int)) (l0_1:List Int) (l0_2:List (List Int)) (a1:Int):Option (ByteArray × Bool) :=
 if wellB l0_0.length l0_1 l0_2=true then (if l0_0.length≤4000000 then fwI (fun i=>i == a1) (nextW l0_1 l0_2) (5 * l0_0.length+10) [0] [(⟨#[]⟩:ByteArray)] 0 else none) else some ((⟨#[]⟩:ByteArray),false)
set_option maxHeartbeats 4000000 in
theorem word_good (x a:Int) (g:Nat) (W:World) (hc:W.cell? ⟨g,0,none⟩=some (.int .i64 a)) :
  Calls Try.prog 41 #[.int .i64 x,.pointer (some ⟨g,0,none⟩)] W fun e W'=>e = .returned (.bool (x == a))∧Below W.heap.size W W':=by
 go_enter Try.func41,Try.ntmps41
 go_wp2
 go_ret
 exact ⟨rfl,za65⟩
set_option maxHeartbeats 4000000 in
theorem word_next (A1 A2:Option Addr) (L:List Int) (P:List (List Int)) (c1 c2:Nat) (x j:Int) (g:Nat) (W:World) (h1:W.cell? ⟨g,1,none⟩=some (.slice A1 L.length c1)) (h2:W.cell? ⟨g,2,none⟩=some (.slice A2 P.length c2))
  (hL:Kd.C (Kd.int .i64) W A1 L.length L) (hP:Kd.C (Kd.slice 3 (Kd.int .i64)) W A2 P.length P) (x0:0≤x) (x1:x < P.length) (j0:0≤j) (j1:j < L.length) (y0:0≤rd L j) (y1:rd L j < (P.getD x.toNat []).length) :
  Calls Try.prog 42 #[.int .i64 x,.int .i64 j,.pointer (some ⟨g,0,none⟩)] W fun e W'=>e = .returned (.int .i64 (nextW L P x j))∧Below W.heap.size W W':=by
 unfold nextW
 obtain ⟨ad,A',c',row,rfl,hx,hle,hC,he⟩:=at_rows hP x x0 x1
 have he:=he.out
 rw [he] at y1 ⊢
 clear he
 obtain ⟨al,rfl,hl⟩:=Kd.at_int hL j j0 j1
 obtain ⟨ar,rfl,hr⟩:=Kd.at_int hC (rd L j) y0 y1
 have HL:=zk hL
 have HP:=zk hP
 have HC:=zk hC
 clear hL hP hC hle
 replace x0:=eq_true x0
 replace x1:=eq_true x1
 replace j0:=eq_true j0
 replace j1:=eq_true j1
 replace y0:=eq_true y0
 replace y1:=eq_true y1
 go_enter Try.func42,Try.ntmps42
 go_wp2
 go_quiet (fail)
 go_wp2
 go_ret
 exact ⟨rfl,za65⟩
theorem well_next {n:Nat} {L:List Int} {P:List (List Int)} (h:wellB n L P=true):0 < n∧P.length=n∧L.length=3∧∀ x j:Int,0≤x→x < n→0≤j→j < 3→0≤rd L j∧rd L j < (P.getD x.toNat []).length∧0≤nextW L P x j∧nextW L P x j < n:=by
 unfold wellB at h
 simp only [Bool.and_eq_true,Bool.not_eq_true',decide_eq_false_iff_not,decide_eq_true_eq,List.all_eq_true] at h
 obtain ⟨⟨h0,h1⟩,h2,h3,h4⟩:=h
 have hin:∀ k:Int,inR n k=true→0≤k∧k < n:=by
  intro k hk
  unfold inR at hk
  simp only [Bool.and_eq_true,decide_eq_true_eq] at hk
  omega
 refine ⟨by omega,h3,h1,fun x j x0 x1 j0 j1=>?_⟩
 have hj:=hin _ (h2 _ (rd_mem j0 (by omega)))
 have hx:x.toNat < P.length:=by omega
 have hrow:P.getD x.toNat [] ∈ P:=by
  rw [List.getD_eq_getElem?_getD,List.getElem?_eq_getElem hx]
  exact List.getElem_mem hx
 have hr:=h4 _ hrow
 unfold rowOk at hr
 simp only [Bool.and_eq_true,decide_eq_true_eq,List.all_eq_true] at hr
 refine ⟨hj.1,by rw [hr.1];exact hj.2,?_⟩
 exact hin _ (hr.2 _ (rd_mem hj.1 (by rw [hr.1];exact hj.2)))
theorem word_first (A1 A2:Option Addr) (L:List Int) (P:List (List Int)) (c1 c2 n k:Nat) (a:Int) (gm gk:Nat) (r1:ByteArray) (r2:Bool) (W:World) (hn:n≤4000000) (h0:0 < n) (hp:P.length=n) (h3:L.length=3)
  (hN:∀ x j:Int,0≤x→x < n→0≤j→j < 3→0≤rd L j∧rd L j < (P.getD x.toNat []).length∧0≤nextW L P x j∧nextW L P x j < n)
  (k1:W.cell? ⟨gm,1,none⟩=some (.slice A1 L.length c1)) (k2:W.cell? ⟨gm,2,none⟩=some (.slice A2 P.length c2)) (k3:W.cell? ⟨gk,0,none⟩=some (.int .i64 a))
  (hL:Kd.C (Kd.int .i64) W A1 L.length L) (hP:Kd.C (Kd.slice 3 (Kd.int .i64)) W A2 P.length P) (h:fwI (fun i=>i == a) (nextW L P) k [0] [(⟨#[]⟩:ByteArray)] 0=some (r1,r2)) :
  Calls Try.prog 40 #[.int .i64 0,.func (.func 41) #[] #[.pointer (some ⟨gk,0,none⟩)],.func (.func 42) #[] #[.pointer (some ⟨gm,0,none⟩)]] W fun e w'=>e = .returned (.tuple #[.string r1,.bool r2])∧Below W.heap.size W w':=by
 refine first_word (fun i=>i == a) (nextW L P) n hn 41 #[.pointer (some ⟨gk,0,none⟩)] (enters_of Try.func41 (by kernel_rfl) rfl) 42 #[.pointer (some ⟨gm,0,none⟩)] (enters_of Try.func42 (by kernel_rfl) rfl) k r1 r2 W h0 ?_ ?_ ?_ h
 ·exact fun x j x0 x1 j0 j1=>(hN x j x0 x1 j0 j1).2.2
 ·intro x W' x0 x1 hb
  exact word_good x a gk W' (pw_cell_below hb k3)
 ·intro x j W' x0 x1 j0 j1 hb
  exact word_next A1 A2 L P c1 c2 x j gm W' (pw_cell_below hb k1) (pw_cell_below hb k2) (Kd.C_below hL hb) (Kd.C_below hP hb) x0 (by omega) j0 (by omega) (hN x j x0 x1 j0 j1).1 (hN x j x0 x1 j0 j1).2.1
set_option maxHeartbeats 4000000 in
theorem impl_WordOfMap.calls (A0_0:Option Addr) (c0_0:Nat) (l0_0:List (List Int)) (A0_1:Option Addr) (c0_1:Nat) (l0_1:List Int) (A0_2:Option Addr) (c0_2:Nat) (l0_2:List (List Int)) (a1:Int) (r1:ByteArray) (r2:Bool) (w:World) (hr0_0:Kd.C (Kd.slice 3 (Kd.int .i64)) w A0_0 l0_0.length l0_0) (hc0_0:l0_0.length≤c0_0) (hr0_1:Kd.C (Kd.int .i64) w A0_1 l0_1.length l0_1) (hc0_1:l0_1.length≤c0_1) (hr0_2:Kd.C (Kd.slice 3 (Kd.int .i64)) w A0_2 l0_2.length l0_2) (hc0_2:l0_2.length≤c0_2) (h:impl_WordOfMap.f l0_0 l0_1 l0_2 a1=some (r1,r2)) :
  Calls Try.prog 13 #[.agg #[.slice A0_0 l0_0.length c0_0,.slice A0_1 l0_1.length c0_1,.slice A0_2 l0_2.length c0_2],.int .i64 a1] w fun e w'=>e = .returned (.tuple #[.string r1,.bool r2])∧Below w.heap.size w w':=by
 have HA:=zk hr0_0
 have HL:=zk hr0_1
 have HP:=zk hr0_2
 have CA:=zk hc0_0
 have CL:=zk hc0_1
 have CP:=zk hc0_2
 clear hr0_0 hr0_1 hr0_2 hc0_0 hc0_1 hc0_2
 unfold impl_WordOfMap.f at h
 cases hw:wellB l0_0.length l0_1 l0_2 with
 | false =>
  rw [hw] at h
  simp only [Bool.false_eq_true,if_false,Option.some.injEq,Prod.mk.injEq] at h
  obtain ⟨rfl,rfl⟩:=h
  have HW:=zk (congrArg some hw)
  clear hw
  go_enter Try.func13,Try.ntmps13
  go_wp2_with (go_at_call 33;refine (impl_wellFormed.calls _ _ l0_0 _ _ l0_1 _ _ l0_2 false _ ?ha CA.out ?hb CL.out ?hc CP.out HW.out).mono ?_;(case ha=>repeat (first|(with_reducible exact HA.out)|(with_reducible refine Kd.C_alloc ?_ _)));(case hb=>repeat (first|(with_reducible exact HL.out)|(with_reducible refine Kd.C_alloc ?_ _)));(case hc=>repeat (first|(with_reducible exact HP.out)|(with_reducible refine Kd.C_alloc ?_ _)));rintro e w2 ⟨rfl,hb⟩;have HB:=zk (show Below w.heap.size w w2 from below_step za58 hb);clear hb)
  go_ret2
  exact ⟨rfl,HB.out⟩
 | true =>
  rw [hw] at h
  simp only [if_true] at h
  by_cases hn:l0_0.length≤4000000
  ·rw [if_pos hn] at h
   obtain ⟨n0,n1,n2,n3⟩:=well_next hw
   have H:=zk h
   have HN:=zk hn
   have H0:=zk n0
   have H1:=zk n1
   have H2:=zk n2
   have H3:=zk n3
   have HW:=zk (congrArg some hw)
   clear hw h hn n0 n1 n2 n3
   go_enter Try.func13,Try.ntmps13
   go_wp2_with (first
    | (go_at_call 33;refine (impl_wellFormed.calls _ _ l0_0 _ _ l0_1 _ _ l0_2 true _ ?ha CA.out ?hb CL.out ?hc CP.out HW.out).mono ?_;(case ha=>repeat (first|(with_reducible exact HA.out)|(with_reducible refine Kd.C_alloc ?_ _)));(case hb=>repeat (first|(with_reducible exact HL.out)|(with_reducible refine Kd.C_alloc ?_ _)));(case hc=>repeat (first|(with_reducible exact HP.out)|(with_reducible refine Kd.C_alloc ?_ _)));rintro e w2 ⟨rfl,hb⟩;have k1:w2.cell? ⟨w.heap.size,1,none⟩=some (.slice A0_1 l0_1.length c0_1):=pw_cell_below hb (by go_simp);have k2:w2.cell? ⟨w.heap.size,2,none⟩=some (.slice A0_2 l0_2.length c0_2):=pw_cell_below hb (by go_simp);have k3:w2.cell? ⟨w.heap.size+1,0,none⟩=some (.int .i64 a1):=pw_cell_below hb (by go_simp);have K1:=zk k1;have K2:=zk k2;have K3:=zk k3;have HB:=zk (show Below w.heap.size w w2 from below_step za58 hb);clear hb k1 k2 k3)
    | (go_at_call 40;refine (word_first A0_1 A0_2 l0_1 l0_2 c0_1 c0_2 l0_0.length (5 * l0_0.length+10) a1 w.heap.size (w.heap.size+1) r1 r2 _ HN.out H0.out H1.out H2.out H3.out K1.out K2.out K3.out (Kd.C_below HL.out HB.out) (Kd.C_below HP.out HB.out) H.out).mono ?_;rintro e w3 ⟨rfl,hb⟩;have n0_:=zk (below_step HB.out hb);clear HB hb;have HB:=n0_;clear n0_))
   go_ret2
   exact ⟨rfl,HB.out⟩
  ·rw [if_neg hn] at h
   exact absurd h (by simp)
end Go.Proofs.Ythkbgoohiinmbaa.Ext
