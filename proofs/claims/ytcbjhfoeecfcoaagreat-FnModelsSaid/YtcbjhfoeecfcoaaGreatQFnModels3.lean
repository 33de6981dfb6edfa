/- FnModels: what its proof needs, put together by this session's program wip/merge.py out of the texts that wip/xp.py printed and of this session's own. -/
import Derived.Test.YtcbjhfoeecfcoaaGreatQFnModels2
import Derived.Outline
import Derived.Deep.RegionLaw
set_option linter.unusedVariables false
set_option linter.unusedSimpArgs false
set_option linter.unusedSectionVars false
set_option maxHeartbeats 8000000
set_option maxRecDepth 100000
namespace Go.Proofs.YtcbjhfoeecfcoaaGreat.Ext
open Go Go.RowKit YtcbjhfoeecfcoaaGreatW.PrintWords YtcbjhfoeecfcoaaGreatW.PrintLast YtcbjhfoeecfcoaaGreat.A
def APost (w0 W:World) (g:Nat) (s:ByteArray) (L:Nat) (nodes:List Nd) (vn va vm:Value) (Q:Int→List Nd→Prop) (e:Ending) (W':World):Prop :=
 ∃ num n2 vn' va' vm',e = .returned (.int .i64 num)∧P3 W' w0.heap.size g s L (nodes ++ n2) (nodes ++ n2) (nodes ++ n2) (nodes ++ n2) vn' va' vm'∧Step g W vn va vm W' vn' va' vm'∧(∀ b ∈ n2.flatMap Nd.blks,W.heap.size≤b)∧Q num n2∧Below w0.heap.size w0 W'
theorem P3.fresh {W:World} {base g:Nat} {s:ByteArray} {L:Nat} {nl al ml nodes:List Nd} {vn va vm:Value} (h:P3 W base g s L nl al ml nodes vn va vm) {b:Nat} (hb:W.heap.size≤b):Apt g vn va vm b∧b ∉ nodes.flatMap Nd.blks :=
 ⟨⟨fun e=>by have:=blk_lt h.z;omega,fun e=>by have:=(h.n.lt b e).2;omega,fun e=>by have:=(h.a.lt b e).2;omega,fun e=>by have:=(h.m.lt b e).2;omega⟩,fun e=>by have:=h.lt b e;omega⟩
theorem own_empty {W:World} {base e:Nat} (hb:base≤W.heap.size):(W.alloc (.cells #[] e)).ownsRow base e 1 (.slice (some ⟨W.heap.size,0,none⟩) 0 0) 0 []:=World.ownsRow_made W #[] 0 hb (by decide) rfl
theorem inf3:(Tryz.prog.info? 3).map (fun i=>(i.zero,i.size,i.bytes))=some (some (.int .i64 0),1,8):=by kernel_rfl
theorem inf25:(Tryz.prog.info? 48).map (fun i=>(i.zero,i.size,i.bytes))=some (some (.slice none 0 0),1,24):=by kernel_rfl
theorem inf92:(Tryz.prog.info? 108).map (fun i=>(i.zero,i.size,i.bytes))=some (some (.slice none 0 0),1,24):=by kernel_rfl
theorem inf35:(Tryz.prog.info? 54).map (fun i=>(i.zero,i.size,i.bytes))=some (some (.agg #[.int .i64 0,.string ⟨#[]⟩,.slice none 0 0]),3,48):=by kernel_rfl
section
variable {P : Program} {ops : Array Oper} {rest : List Oper} {o : Oper} {a : Act} {Q : Exit → Act → World → Prop}
theorem make_event {W:World} (hgd:o.guard=none) {n:Nat} {cs:Array Value} {t:TypeId}
  (hrun:(execOp a.eval o).run P W = .ok (.value (.slice (some ⟨W.heap.size,0,none⟩) n n)) (W.alloc (.cells cs t (0,0))))
  (h:∀ b,b=W.heap.size→∀ w1,w1.heap[b]? = some (.cells cs t (0,0))→Below W.heap.size W w1→wpList P ops Q rest (a.put o.dst (.slice (some ⟨b,0,none⟩) n n)) w1):wpList P ops Q (o :: rest) a W :=
 Kd.event_run hgd hrun (h _ rfl _ (blk_new W _) (below_alloc (Below.refl _ _) _))
end
theorem made64 (m:Nat):madeCells #[Value.int .i64 0] m=(nums .i64 (List.replicate m 0)).toArray:=by
 simp only [madeCells,nums]
 apply Array.ext
 ·simp
 ·intro i h1 h2;simp [Nat.mod_one]
theorem last3 {W:World} {base e g n cap:Nat} {xs:List Value} {a b c:Value} (h:W.ownsRow base e 3 (.slice (some ⟨g,0,none⟩) (n+1) cap) (n+1) (xs ++ [a,b,c])) (hx:xs.length=n * 3) :
  W.cell? ⟨g,n * 3,none⟩=some a∧W.cell? ⟨g,n * 3+1,none⟩=some b∧W.cell? ⟨g,n * 3+2,none⟩=some c∧(∃ cur,W.heap[g]? = some (.cells cur e (0,0))) ∧
  ∀ a' b' c':Value,(((W.setCell ⟨g,n * 3,none⟩ a').setCell ⟨g,n * 3+1,none⟩ b').setCell ⟨g,n * 3+2,none⟩ c').ownsRow base e 3 (.slice (some ⟨g,0,none⟩) (n+1) cap) (n+1) (xs ++ [a',b',c']):=by
 have c_:∀ j u,(xs ++ [a,b,c])[j]? = some u→W.cell? ⟨g,j,none⟩=some u:=fun j u hu=>by
  have:=h.cells (g:=g) rfl j u hu
  rwa [add_plain] at this
 refine ⟨c_ _ _ (by simp [← hx]),c_ _ _ (by simp [← hx]),c_ _ _ (by simp [← hx]),own_typed h g rfl,fun a' b' c' => ?_⟩
 have h1:=(h.stored (n * 3) a').1
 have h2:=(h1.stored (n * 3+1) b').1
 have h3:=(h2.stored (n * 3+2) c').1
 have e1:(((xs ++ [a,b,c]).set (n * 3) a').set (n * 3+1) b').set (n * 3+2) c'=xs ++ [a',b',c']:=by
  rw [← hx]
  apply List.ext_getElem?
  intro j
  simp only [List.getElem?_set,List.getElem?_append,List.length_set,List.length_append,List.length_cons,List.length_nil]
  rcases Nat.lt_or_ge j xs.length with hj|hj
  ·simp [hj,show ¬ xs.length+2=j by omega,show ¬ xs.length+1=j by omega,show ¬ xs.length=j by omega]
  ·obtain ⟨d,rfl⟩:∃ d,j=xs.length+d:=⟨j - xs.length,by omega⟩
   match d with
   | 0=>simp
   | 1=>simp
   | 2=>simp
   | d+3=>simp
 rw [e1] at h3
 exact h3
theorem swap4 {W:World} {g g8:Nat} (hne:g ≠ g8) {cs:Array Value} {T:TypeId} (hg:W.heap[g]? = some (.cells cs T (0,0))) {cur:Array Value} {e:TypeId} (h8:W.heap[g8]? = some (.cells cur e (0,0))) (o o1 o2 o3:Nat) (u1 u2 u3 v:Value) (k:Nat) :
  ((((W.setCell ⟨g,o,none⟩ v).setCell ⟨g8,o1,none⟩ u1).setCell ⟨g8,o2,none⟩ u2).setCell ⟨g8,o3,none⟩ u3).heap[k]? = ((((W.setCell ⟨g8,o1,none⟩ u1).setCell ⟨g8,o2,none⟩ u2).setCell ⟨g8,o3,none⟩ u3).setCell ⟨g,o,none⟩ v).heap[k]?:=by
 by_cases h1:k=g
 ·subst h1
  rw [blk_far (blk_far (blk_far (blk_set hg o v) hne u1) hne u2) hne u3,blk_set (blk_far (blk_far (blk_far hg hne u1) hne u2) hne u3) o v]
 ·by_cases h2:k=g8
  ·subst h2
   have hne':=fun h=>hne (Eq.symm h)
   rw [blk_set (blk_set (blk_set (blk_far h8 hne' v) o1 u1) o2 u2) o3 u3,blk_far (blk_set (blk_set (blk_set h8 o1 u1) o2 u2) o3 u3) hne' v]
  ·have e1:∀ (w:World) (p:Addr) (u:Value),k ≠ p.block→(w.setCell p u).heap[k]? = w.heap[k]?:=fun w p u h=>Below.heap_setCell w p u k h
   rw [e1 _ _ _ h2,e1 _ _ _ h2,e1 _ _ _ h2,e1 _ _ _ h1,e1 _ _ _ h1,e1 _ _ _ h2,e1 _ _ _ h2,e1 _ _ _ h2]
theorem P3.congr {W W':World} {base g:Nat} {s:ByteArray} {L:Nat} {nl al ml nodes:List Nd} {vn va vm:Value} (h:P3 W base g s L nl al ml nodes vn va vm) (e:∀ k:Nat,W'.heap[k]? = W.heap[k]?):P3 W' base g s L nl al ml nodes vn va vm :=
 h.move (e _) (fun k _=>e k) (fun k _=>e k) (fun k _=>e k) (fun k _=>e k)
theorem grow_put3 {W W8:World} {un v8:Value} {g8:Nat} (hv:v8.ownBlock=some g8) (G8:W.grownBy W8 un.ownBlock) (T8:v8.ownBlock=un.ownBlock∨∃ b,v8.ownBlock=some b∧W.heap.size≤b) (o1 o2 o3:Nat) (u1 u2 u3:Value) :
  W.grownBy (((W8.setCell ⟨g8,o1,none⟩ u1).setCell ⟨g8,o2,none⟩ u2).setCell ⟨g8,o3,none⟩ u3) un.ownBlock:=by
 have h0:∀ k,k < W.heap.size→some k ≠ un.ownBlock→k ≠ g8:=fun k hk he e=>by
  subst e
  rcases T8 with h|⟨b,h,h2⟩
  ·exact he (hv.symm.trans h)
  ·rw [hv] at h;injection h with h;omega
 refine ⟨G8.os,G8.tape,G8.output,by simpa using G8.size,fun k hk he=>?_⟩
 have hne:=h0 k hk he
 rw [Below.heap_setCell _ _ _ k hne,Below.heap_setCell _ _ _ k hne,Below.heap_setCell _ _ _ k hne]
 exact G8.block k hk he
theorem Step.congr {g:Nat} {W W' W2:World} {vn va vm vn' va' vm':Value} (h:Step g W vn va vm W' vn' va' vm') (e:∀ k:Nat,W2.heap[k]? = W'.heap[k]?) (hs:W2.heap.size=W'.heap.size):Step g W vn va vm W2 vn' va' vm' :=
 ⟨hs ▸ h.sz,fun k hk ha=>(e k).trans (h.fr k hk ha),h.n,h.a,h.m⟩
theorem leaf_n {W W8 w0:World} {g:Nat} {s:ByteArray} {L:Nat} {nl al ml nodes:List Nd} {un ua um:Value} {g8 cap8 N:Nat} (x:Nd) (PA:P3 W w0.heap.size g s L nl al ml nodes un ua um) (hN:nl.length=N) (hb8:w0.heap.size≤g8) (hgb:w0.heap.size≤g) (u1 u2 u3:Value)
  (own:(((W8.setCell ⟨g8,N * 3,none⟩ u1).setCell ⟨g8,N * 3+1,none⟩ u2).setCell ⟨g8,N * 3+2,none⟩ u3).ownsRow w0.heap.size 54 3 (.slice (some ⟨g8,0,none⟩) (N+1) cap8) (N+1) (nl.flatMap Nd.cells ++ [u1,u2,u3])) (hx:x.cells = [u1,u2,u3]) (hne:g ≠ g8) {cur8:Array Value} (C8:W8.heap[g8]? = some (.cells cur8 54 (0,0))) {cs:Array Value} {T:TypeId} (H8:W8.heap[g]? = some (.cells cs T (0,0)))
  (G8:W.drew.grownBy W8 un.ownBlock) (T8:(Value.slice (some ⟨g8,0,none⟩) (N+1) cap8).ownBlock=un.ownBlock∨∃ b,(Value.slice (some ⟨g8,0,none⟩) (N+1) cap8).ownBlock=some b∧W.drew.heap.size≤b) (B8:Below w0.heap.size w0 W8) :
  (P3 ((((W8.setCell ⟨g8,N * 3,none⟩ u1).setCell ⟨g8,N * 3+1,none⟩ u2).setCell ⟨g8,N * 3+2,none⟩ u3).setCell ⟨g,1,none⟩ (.slice (some ⟨g8,0,none⟩) (N+1) cap8)) w0.heap.size g s L (nl ++ [x]) al ml nodes (.slice (some ⟨g8,0,none⟩) (N+1) cap8) ua um∧Step g W un ua um ((((W8.setCell ⟨g8,N * 3,none⟩ u1).setCell ⟨g8,N * 3+1,none⟩ u2).setCell ⟨g8,N * 3+2,none⟩ u3).setCell ⟨g,1,none⟩ (.slice (some ⟨g8,0,none⟩) (N+1) cap8)) (.slice (some ⟨g8,0,none⟩) (N+1) cap8) ua um∧Below w0.heap.size w0 ((((W8.setCell ⟨g8,N * 3,none⟩ u1).setCell ⟨g8,N * 3+1,none⟩ u2).setCell ⟨g8,N * 3+2,none⟩ u3).setCell ⟨g,1,none⟩ (.slice (some ⟨g8,0,none⟩) (N+1) cap8))) ∧
  (P3 ((((W8.setCell ⟨g,1,none⟩ (.slice (some ⟨g8,0,none⟩) (N+1) cap8)).setCell ⟨g8,N * 3,none⟩ u1).setCell ⟨g8,N * 3+1,none⟩ u2).setCell ⟨g8,N * 3+2,none⟩ u3) w0.heap.size g s L (nl ++ [x]) al ml nodes (.slice (some ⟨g8,0,none⟩) (N+1) cap8) ua um∧Step g W un ua um ((((W8.setCell ⟨g,1,none⟩ (.slice (some ⟨g8,0,none⟩) (N+1) cap8)).setCell ⟨g8,N * 3,none⟩ u1).setCell ⟨g8,N * 3+1,none⟩ u2).setCell ⟨g8,N * 3+2,none⟩ u3) (.slice (some ⟨g8,0,none⟩) (N+1) cap8) ua um∧Below w0.heap.size w0 ((((W8.setCell ⟨g,1,none⟩ (.slice (some ⟨g8,0,none⟩) (N+1) cap8)).setCell ⟨g8,N * 3,none⟩ u1).setCell ⟨g8,N * 3+1,none⟩ u2).setCell ⟨g8,N * 3+2,none⟩ u3)):=by
 have g1:=grow_put3 (v8:=.slice (some ⟨g8,0,none⟩) (N+1) cap8) rfl G8 T8 (N * 3) (N * 3+1) (N * 3+2) u1 u2 u3
 have r0:=(PA.congr (W':=W.drew) fun _=>rfl).grow_n x (by rw [hN,hx];exact own) g1 T8
 have r:=And.intro r0.1 (show Step g W un ua um _ _ ua um from ⟨r0.2.sz,r0.2.fr,r0.2.n,r0.2.a,r0.2.m⟩)
 have sw:=swap4 hne H8 C8 1 (N * 3) (N * 3+1) (N * 3+2) u1 u2 u3 (.slice (some ⟨g8,0,none⟩) (N+1) cap8)
 exact ⟨⟨r.1,r.2,(((B8.setCell hb8 _).setCell hb8 _).setCell hb8 _).setCell hgb _⟩,⟨r.1.congr sw,r.2.congr sw (by simp),(((B8.setCell hgb _).setCell hb8 _).setCell hb8 _).setCell hb8 _⟩⟩
theorem add_walk (w0:World) (g:Nat) (s:ByteArray) (L:Nat) (hsL:s.size+1=L) (hL:L≤401) (k:Int) (bs:ByteArray) (xs:List S54) (A:Option Addr) (c:Nat) (hC:Kd.C k54 w0 A xs.length xs) (hc:xs.length≤c) (hx2:xs.length≤2)
  (nodes:List Nd) (vn va vm:Value) (W:World) (hP:P3 W w0.heap.size g s L nodes nodes nodes nodes vn va vm) (hgb:w0.heap.size≤g) (hB:Below w0.heap.size w0 W)
  (E:Nat→List Int→List Nd→Prop) (hE0:E 0 [] []) (hEn:∀ kk ars nn,E kk ars nn→ars.length=kk∧nodes.length+nn.length≤1000)
  (hch:∀ (kk:Nat) (h:kk < xs.length) (ars:List Int) (nn:List Nd),E kk ars nn→∀ (A2:Option Addr) (c2:Nat) (un ua um:Value) (W':World),xs[kk].f2.length≤c2→Kd.C k54 w0 A2 xs[kk].f2.length xs[kk].f2→P3 W' w0.heap.size g s L (nodes ++ nn) (nodes ++ nn) (nodes ++ nn) (nodes ++ nn) un ua um→Below w0.heap.size w0 W' →
   Calls Tryz.prog 103 #[.pointer (some ⟨g,0,none⟩),.agg #[.int .i64 xs[kk].f0,.string xs[kk].f1,.slice A2 xs[kk].f2.length c2]] W' (APost w0 W' g s L (nodes ++ nn) un ua um (fun num n2=>E (kk+1) (ars ++ [num]) (nn ++ n2)))) :
  Calls Tryz.prog 103 #[.pointer (some ⟨g,0,none⟩),.agg #[.int .i64 k,.string bs,.slice A xs.length c]] W (APost w0 W g s L nodes vn va vm (fun num n2=>∃ ars nn x,n2=nn ++ [x]∧num=((nodes.length+nn.length:Nat):Int)∧E xs.length ars nn∧x.k=k∧x.l=bs∧x.ars=ars)):=by
 subst hsL
 have HC:=zk hC
 have HP:=zk hP
 have HB:=zk hB
 have HE0:=zk hE0
 have HB0:=zk hB
 have HEn:=zk hEn
 have HCH:=zk hch
 clear hC hP hB hE0 hEn hch
 go_enter Tryz.func103,Tryz.ntmps103
 go_wp2_with (first
  | ((with_reducible refine gate_dst (N:=3) rfl ?_);refine zE (cs:=#[.int .i64 k,.string bs,.slice A xs.length c]) (t:=54) ?_;intro gx hgx w3 hbox hb3;have X3:=zk hbox;have P3':=zk (HP.out.below hb3);have B3:=zk (below_step HB.out hb3);have S3:=zk (Step.below (g:=g) (vn:=vn) (va:=va) (vm:=vm) hb3);have G3:=zk (show W.heap.size≤gx by omega);clear hb3 hbox hgx))
 have R3:=zk (own_empty (W:=w3) (base:=w0.heap.size) (e:=3) B3.out.size)
 have Q3:Aside0 (∀ b,(Value.slice (some ⟨w3.heap.size,0,none⟩) 0 0).ownBlock=some b→W.heap.size≤b∧Apt g vn va vm b∧b ∉ (nodes ++ []).flatMap Nd.blks):=⟨fun b hb=>by
  obtain rfl:w3.heap.size=b:=by simpa [Value.ownBlock] using hb
  have:=P3'.out.fresh (Nat.le_refl w3.heap.size)
  exact ⟨S3.out.sz,this.1,by simpa using this.2⟩⟩
 have hb4:=below_alloc (Below.refl w3.heap.size w3) (.cells #[] 3)
 have P4:=zk (P3'.out.below hb4)
 have B4:=zk (below_step B3.out hb4)
 have S4:=zk (S3.out.trans (Step.below hb4))
 have X4:=zk (blk_below X3.out hb4)
 have A4:=zk (HP.out.fresh G3.out).1
 clear X3 P3' B3 S3 hb4
 generalize w3.alloc (.cells #[] 3)=w4 at *
 generalize (Value.slice (some ⟨w3.heap.size,0,none⟩) 0 0)=v4 at *
 go_loopg [5,6] xs.length (fun kq v5 v6 w'=>∃ (kk:Nat) (ars:List Int) (nn:List Nd) (un ua um:Value),v6 = .int .i64 (kk:Int)∧Aside0 (kk+kq=xs.length)∧Aside0 (E kk ars nn)∧Aside0 (w'.ownsRow w0.heap.size 3 1 v5 ars.length (nums .i64 ars))∧Aside0 (∀ b,v5.ownBlock=some b→W.heap.size≤b∧Apt g un ua um b∧b ∉ (nodes ++ nn).flatMap Nd.blks)∧Aside0 (P3 w' w0.heap.size g s (s.size+1) (nodes ++ nn) (nodes ++ nn) (nodes ++ nn) (nodes ++ nn) un ua um)∧Aside0 (Step g W vn va vm w' un ua um)∧Aside0 (∀ b ∈ nn.flatMap Nd.blks,W.heap.size≤b)∧Aside0 (w'.heap[gx]? = some (.cells #[.int .i64 k,.string bs,.slice A xs.length c] 54 (0,0)))∧Aside0 (Apt g un ua um gx)∧Aside0 (Below w0.heap.size w0 w'))
 case atStart=>exact ⟨0,[],[],vn,va,vm,rfl,⟨by omega⟩,HE0,R3,Q3,by simpa using P4,S4,⟨by simp⟩,X4,A4,B4⟩
 case round =>
  clear R3 Q3 P4 S4 X4 A4 B4 HP HB HE0
  obtain ⟨kk,ars,nn,un,ua,um,rfl,HK,HE,HR,HQ,HP,HS,HF,HX,HA,HB⟩:=hrel
  obtain ⟨y0,y1,y2,g0,g1,g2⟩:=blk3 HX.out
  by_cases hlt:kk < xs.length
  ·obtain ⟨ad,A2,c2,hA,e0,e1,e2,h3,h4⟩:=arg_at HC.out HB.out kk hlt
   have CH:=zk (HCH.out kk hlt ars nn HE.out A2 c2 un ua um wr h3 h4 HP.out HB.out)
   have hl9:=HEn.out kk ars nn HE.out
   have HL9:=zk hl9
   have HLT:=zk hlt
   have hd:decide (kk < xs.length)=true:=decide_eq_true hlt
   have q1:=eq_true hlt
   have hk9:kk≤2:=by omega
   generalize hxk:xs[kk]=xk at *
   subst hA
   clear hlt h3 h4 hl9 hxk
   cases gk with
   | zero=>exact absurd HK.out (by have:=HLT.out;omega)
   | succ k1 =>
    go_wp2_with (first
     | (go_at_call 103;(with_reducible refine CH.out.mono ?_);rintro e w7 ⟨num,n2,un2,ua2,um2,rfl,P7,S7,F7,E7,B7⟩;have P7':=zk P7;have F7':=zk F7;have E7':=zk E7;have S7':=zk (HS.out.trans S7);have R7:=zk (own_move HR.out fun b hb=>S7.fr b (HR.out.lt b hb).2 (HQ.out b hb).2.1);have Q7:Aside0 (∀ b,u5.ownBlock=some b→W.heap.size≤b∧Apt g un2 ua2 um2 b∧b ∉ (nodes ++ nn ++ n2).flatMap Nd.blks):=⟨fun b hb=>⟨(HQ.out b hb).1,S7.apt (HR.out.lt b hb).2 (HQ.out b hb).2.1,fun h=>by rw [List.flatMap_append] at h;rcases List.mem_append.1 h with h|h;exact (HQ.out b hb).2.2 h;have:=F7 b h;have:=(HR.out.lt b hb).2;omega⟩⟩;have X7:=zk ((S7.fr gx (blk_lt HX.out) HA.out).trans HX.out);have A7:=zk (S7.apt (blk_lt HX.out) HA.out);have B7':=zk B7;have Z7:=zk S7.sz;clear P7 S7 F7 E7 B7 y0 y1 y2 g0 g1 g2 e0 e1 e2)
     | (at_builtin;refine print_append_cells (w0:=w0) w0.heap.size rfl (.tmp 17) (.tmp 25) 48 3 (.int .i64 0) 1 8 rfl Tryz.underlying48 inf3 rfl (by decide) (by decide) u5 ars.length (nums .i64 ars) [.int .i64 num] rfl rfl rfl (by intro u hu;rw [List.mem_singleton.1 hu];rfl) R7.out B7'.out (B7'.out.size) (by have:=HL9.out;omega) ?_;intro v8 w8 hown8 hb8 hg8 hat8;have R8:Aside0 (w8.ownsRow w0.heap.size 3 1 v8 (ars ++ [num]).length (nums .i64 (ars ++ [num]))):=⟨by rw [nums_append,List.length_append];exact hown8⟩;have P8:=zk (P7'.out.row hg8 fun b hb=>(Q7.out b hb).2);have S8:=zk (Step.row hg8 (fun b hb=>(Q7.out b hb).1) S7'.out);have Q8:Aside0 (∀ b,v8.ownBlock=some b→W.heap.size≤b∧Apt g un2 ua2 um2 b∧b ∉ (nodes ++ nn ++ n2).flatMap Nd.blks):=⟨fun b hb=>by rcases hat8 with h|⟨b1,h,h2⟩;exact Q7.out b (h.symm.trans hb);rw [h] at hb;injection hb with hb;subst hb;exact ⟨Nat.le_trans S7'.out.sz h2,P7'.out.fresh h2⟩⟩;have X8:=zk (blk_grown X7.out hg8 (own_ne R7.out X7.out (by decide)));have B8:=zk hb8;clear hown8 hb8 hg8 hat8))
    go_roundg k1
    case measure=>omega
    case rel=>exact ⟨kk+1,ars ++ [num],nn ++ n2,un2,ua2,um2,za93,⟨by have:=HK.out;omega⟩,E7',R8,⟨by rw [← List.append_assoc];exact Q8.out⟩,⟨by rw [← List.append_assoc];exact P8.out⟩,S8,⟨fun b hb=>by
     rw [List.flatMap_append] at hb
     rcases List.mem_append.1 hb with hb|hb
     ·exact HF.out b hb
     ·exact Nat.le_trans HS.out.sz (F7'.out b hb)⟩,X8,A7,B8⟩
  ·have hkk:kk=xs.length:=by have:=HK.out;omega
   subst hkk
   have hd:decide (xs.length < xs.length)=false:=by simp
   clear hlt HCH
   go_wp2
   have hb4:=below_alloc (Below.refl wr.heap.size wr) (.cells #[] 48)
   have R4:=zk (own_empty (W:=wr) (base:=w0.heap.size) (e:=48) HB.out.size)
   have Q4:Aside0 (∀ b,(Value.slice (some ⟨wr.heap.size,0,none⟩) 0 0).ownBlock=some b→W.heap.size≤b∧Apt g un ua um b∧b ∉ (nodes ++ nn).flatMap Nd.blks∧u5.ownBlock ≠ some b):=⟨fun b hb=>by
    obtain rfl:wr.heap.size=b:=by simpa [Value.ownBlock] using hb
    have:=HP.out.fresh (Nat.le_refl wr.heap.size)
    exact ⟨HS.out.sz,this.1,this.2,fun e=>by have:=(HR.out.lt _ e).2;omega⟩⟩
   have P4:=zk (HP.out.below hb4)
   have B4:=zk (below_step HB.out hb4)
   have S4:=zk (HS.out.trans (Step.below hb4))
   have X4:=zk (blk_below HX.out hb4)
   have R5:=zk (HR.out.alloc (.cells #[] 48))
   clear HP HB HS HX HR hb4 y0 y1 y2 g0 g1 g2
   generalize wr.alloc (.cells #[] 48)=w4 at *
   generalize (Value.slice (some ⟨wr.heap.size,0,none⟩) 0 0)=v4 at *
   go_loopg [7,8] (s.size+1) (fun kq v7 v8 w'=>∃ (ii:Nat) (rows:List Nat),v8 = .int .i64 (ii:Int)∧Aside0 (ii+kq=s.size+1)∧Aside0 (rows.length=ii)∧Aside0 (w'.ownsRow w0.heap.size 48 1 v7 ii (rows.map fun b => .slice (some ⟨b,0,none⟩) (s.size+1) (s.size+1)))∧Aside0 (∀ b,v7.ownBlock=some b→W.heap.size≤b∧Apt g un ua um b∧b ∉ (nodes ++ nn).flatMap Nd.blks∧u5.ownBlock ≠ some b)∧Aside0 (∀ b ∈ rows,(W.heap.size≤b∧Apt g un ua um b∧b ∉ (nodes ++ nn).flatMap Nd.blks∧u5.ownBlock ≠ some b)∧w'.heap[b]? = some (.cells (nums .i64 (List.replicate (s.size+1) 0)).toArray 3 (0,0)))∧Aside0 rows.Nodup∧Aside0 (P3 w' w0.heap.size g s (s.size+1) (nodes ++ nn) (nodes ++ nn) (nodes ++ nn) (nodes ++ nn) un ua um)∧Aside0 (Step g W vn va vm w' un ua um)∧Aside0 (w'.ownsRow w0.heap.size 3 1 u5 ars.length (nums .i64 ars))∧Aside0 (w'.heap[gx]? = some (.cells #[.int .i64 k,.string bs,.slice A xs.length c] 54 (0,0)))∧Aside0 (Below w0.heap.size w0 w'))
   case atStart=>exact ⟨0,[],rfl,⟨by omega⟩,⟨rfl⟩,R4,Q4,⟨by simp⟩,⟨by simp⟩,P4,S4,R5,X4,B4⟩
   case round =>
    clear R4 Q4 P4 S4 R5 X4 B4
    obtain ⟨ii,rows,rfl,HI,HL,HR,HQ2,HW,HD,HP,HS,HR5,HX,HB⟩:=hrel
    obtain ⟨z0,z1,z2,z3,f0,f1,f2,f3⟩:=blk4 HP.out.z
    by_cases hle:ii≤s.size
    ·have hd2:decide (ii≤s.size)=true:=decide_eq_true hle
     have HLE:=zk hle
     have hi9:ii≤401:=by omega
     clear hle
     have hs9:s.size≤400:=by omega
     have hmk:∀ W:World,(Instr.makeSlice 48 (.int .i64 ((s.size:Int)+1)) (.int .i64 ((s.size:Int)+1))).run Tryz.prog W = .ok (.slice (some ⟨W.heap.size,0,none⟩) (s.size+1) (s.size+1)) (W.alloc (.cells (nums .i64 (List.replicate (s.size+1) 0)).toArray 3)):=fun W=>by
      have:=print_make_int (P:=Tryz.prog) 48 3 (.int .i64 0) 8 Tryz.underlying48 inf3 rfl (by decide) ((s.size+1:Nat):Int) (by omega) (by simp only [Int.toNat_natCast];omega) W
      rw [made64] at this
      simp only [Int.toNat_natCast] at this
      rw [show ((s.size+1:Nat):Int)=(s.size:Int)+1 by omega] at this
      exact this
     cases gk with
     | zero=>exact absurd HI.out (by have:=HLE.out;omega)
     | succ k2 =>
      go_wp2_with (first
       | ((with_reducible refine gate_dst (N:=44) rfl ?_);refine make_event ?hg (n:=s.size+1) (cs:=(nums .i64 (List.replicate (s.size+1) 0)).toArray) (t:=3) ?hr ?_;(case hg=>rfl);(case hr=>first|(go_simp;done)|(go_simp;rfl));intro b hbe w7 hb7 hbb;have N7:=zk hb7;have R7:=zk (pw_own_below HR.out hbb);have M7:Aside0 (W.heap.size≤b∧Apt g un ua um b∧b ∉ (nodes ++ nn).flatMap Nd.blks∧u5.ownBlock ≠ some b):=⟨by rw [hbe];exact ⟨HS.out.sz,(HP.out.fresh (Nat.le_refl _)).1,(HP.out.fresh (Nat.le_refl _)).2,fun e=>by have:=(HR5.out.lt _ e).2;omega⟩⟩;have NN:Aside0 (b ∉ rows):=⟨fun h=>by have:=blk_lt (HW.out b h).2;omega⟩;have W7:Aside0 (∀ b ∈ rows,(W.heap.size≤b∧Apt g un ua um b∧b ∉ (nodes ++ nn).flatMap Nd.blks∧u5.ownBlock ≠ some b)∧w7.heap[b]? = some (.cells (nums .i64 (List.replicate (s.size+1) 0)).toArray 3 (0,0))):=⟨fun q hq=>⟨(HW.out q hq).1,blk_below (HW.out q hq).2 hbb⟩⟩;have P7:=zk (HP.out.below hbb);have S7:=zk (HS.out.trans (Step.below hbb));have RR7:=zk (pw_own_below HR5.out hbb);have X7:=zk (blk_below HX.out hbb);have B7:=zk (below_step HB.out hbb);clear hbe hb7 hbb z0 z1 z2 z3 f0 f1 f2 f3)
       | (at_builtin;refine print_append_cells (w0:=w0) w0.heap.size rfl (.tmp 37) (.tmp 45) 108 48 (.slice none 0 0) 1 24 rfl Tryz.underlying108 inf25 rfl (by decide) (by decide) u7 ii (rows.map fun b => .slice (some ⟨b,0,none⟩) (s.size+1) (s.size+1)) [.slice (some ⟨b,0,none⟩) (s.size+1) (s.size+1)] rfl rfl rfl (by intro u hu;rw [List.mem_singleton.1 hu];rfl) R7.out B7.out B7.out.size (by have:=HLE.out;omega) ?_;intro v8 w8 hown8 hb8 hg8 hat8;have hne:∀ q e n' vv ys,w7.ownsRow w0.heap.size e n' vv q ys→e ≠ 48→vv.ownBlock=none∨vv.ownBlock ≠ u7.ownBlock:=fun q e n' vv ys h he=>own_type_ne h R7.out he;have R8:=zk hown8;have P8:=zk (P7.out.row hg8 fun q hq=>⟨(HQ2.out q hq).2.1,(HQ2.out q hq).2.2.1⟩);have S8:=zk (Step.row hg8 (fun q hq=>(HQ2.out q hq).1) S7.out);have RR8:=zk (RR7.out.kept hg8 (hne _ _ _ _ _ RR7.out (by decide)));have X8:=zk (blk_grown X7.out hg8 (own_ne R7.out X7.out (by decide)));have B8:=zk hb8;have Q8:Aside0 (∀ b,v8.ownBlock=some b→W.heap.size≤b∧Apt g un ua um b∧b ∉ (nodes ++ nn).flatMap Nd.blks∧u5.ownBlock ≠ some b):=⟨fun q hq=>by rcases hat8 with h|⟨b1,h,h2⟩;exact HQ2.out q (h.symm.trans hq);rw [h] at hq;injection hq with hq;subst hq;exact ⟨Nat.le_trans S7.out.sz h2,(P7.out.fresh h2).1,(P7.out.fresh h2).2,fun e=>by have:=(RR7.out.lt _ e).2;omega⟩⟩;have W8:Aside0 (∀ q ∈ rows ++ [b],(W.heap.size≤q∧Apt g un ua um q∧q ∉ (nodes ++ nn).flatMap Nd.blks∧u5.ownBlock ≠ some q)∧w8.heap[q]? = some (.cells (nums .i64 (List.replicate (s.size+1) 0)).toArray 3 (0,0))):=⟨fun q hq=>by rcases List.mem_append.1 hq with hq|hq;exact ⟨(W7.out q hq).1,blk_grown (W7.out q hq).2 hg8 (own_ne R7.out (W7.out q hq).2 (by decide))⟩;rw [List.mem_singleton.1 hq];exact ⟨M7.out,blk_grown N7.out hg8 (own_ne R7.out N7.out (by decide))⟩⟩;clear hown8 hb8 hg8 hat8 hne))
      clear hmk
      go_roundg k2
      case measure=>omega
      case rel=>exact ⟨ii+1,rows ++ [b],za93,⟨by have:=HI.out;omega⟩,⟨by rw [List.length_append,HL.out];rfl⟩,⟨by rw [List.map_append];exact R8.out⟩,Q8,W8,⟨by
       rw [List.nodup_append]
       refine ⟨HD.out,by simp,fun x hx y hy e=>?_⟩
       rw [List.mem_singleton.1 hy] at e
       subst e
       exact NN.out hx⟩,P8,S8,RR8,X8,B8⟩
    ·have hie:ii=s.size+1:=by have:=HI.out;omega
     have hd2:decide (ii≤s.size)=false:=decide_eq_false hle
     subst hie
     clear hle
     obtain ⟨aA,ac,hu5⟩:=own_slice HR5.out
     obtain ⟨tb,tc,hu7,_,_⟩:=HR.out.form (by omega)
     subst hu5 hu7
     have hsep:∀ b,W.heap.size≤b∧Apt g un ua um b∧b ∉ (nodes ++ nn).flatMap Nd.blks∧(Value.slice aA ars.length ac).ownBlock ≠ some b→Apt g un ua um b∧b ∉ (nodes ++ nn).flatMap Nd.blks∧W.heap.size≤b:=fun b h=>⟨h.2.1,h.2.2.1,h.1⟩
     obtain ⟨x,hx⟩:∃ x:Nd,x=⟨k,bs,.slice A xs.length c,ars,aA,ac,tb,tc,rows⟩:=⟨_,rfl⟩
     have hxb:∀ b ∈ x.blks,Apt g un ua um b∧b ∉ (nodes ++ nn).flatMap Nd.blks∧W.heap.size≤b:=fun b hb=>by
      subst hx
      simp only [Nd.blks,List.mem_append,List.mem_cons,Option.mem_toList] at hb
      rcases hb with hb|rfl|hb
      ·have:=HQ.out b hb;exact ⟨this.2.1,this.2.2,this.1⟩
      ·exact hsep _ (HQ2.out _ rfl)
      ·exact hsep _ (HW.out _ hb).1
     have hxn:x.blks.Nodup:=by
      subst hx
      simp only [Nd.blks]
      rw [List.nodup_append]
      refine ⟨by cases aA <;> simp [Nd.av,Value.ownBlock],?_,?_⟩
      ·rw [List.nodup_cons]
       exact ⟨fun h=>own_ne HR.out (HW.out _ h).2 (by decide) rfl,HD.out⟩
      ·intro p hp q hq e
       subst e
       have hp':(Value.slice aA ars.length ac).ownBlock=some p:=by simpa [Nd.av] using hp
       rcases List.mem_cons.1 hq with h|h
       ·subst h;exact (HQ2.out _ rfl).2.2.2 hp'
       ·exact (HW.out _ h).1.2.2.2 hp'
     have hxo:NOk wr w0.heap.size (s.size+1) x:=by
      subst hx
      exact ⟨HR5.out,HR.out,HL.out,fun b hb=>⟨Nat.le_trans (Nat.le_trans HB0.out.size (Nat.le_refl _)) (HW.out b hb).1.1,(HW.out b hb).2⟩⟩
     have PA:=zk (HP.out.add x hxo hxn (fun b hb=>(hxb b hb).2.1) (fun b hb=>(hxb b hb).1))
     have HXB:=zk (fun b (hb:b ∈ x.blks)=>(hxb b hb).2.2)
     have HXE:=zk hx
     clear hsep hxb hxn hxo hx HQ2 HW HD HQ HP HR HR5 HL
     have hl9:=(HEn.out xs.length ars nn HE.out).2
     go_upto_region 11 with (fail)
     go_cut [] (fun wc=>∃ un2,Aside0 (P3 wc w0.heap.size g s (s.size+1) (nodes ++ nn ++ [x]) (nodes ++ nn) (nodes ++ nn) (nodes ++ nn ++ [x]) un2 ua um)∧Aside0 (Step g W vn va vm wc un2 ua um)∧Aside0 (Below w0.heap.size w0 wc))
     case first =>
      obtain ⟨y0,y1,y2,g0,g1,g2⟩:=blk3 HX.out
      obtain ⟨N,hN⟩:∃ N,(nodes ++ nn).length=N:=⟨_,rfl⟩
      have PN:wr.ownsRow w0.heap.size 54 3 un N ((nodes ++ nn).flatMap Nd.cells):=by rw [← hN];exact PA.out.n
      have hN9:N≤1000:=by rw [← hN,List.length_append];omega
      have HNN:=zk hN
      clear hN hl9
      obtain ⟨Aun,cun,hun⟩:=own_slice PN
      subst hun
      obtain ⟨z0,z1,z2,z3,f0,f1,f2,f3⟩:=blk4 PA.out.z
      have l1:gx < wr.heap.size:=blk_lt HX.out
      have l2:g < wr.heap.size:=blk_lt PA.out.z
      have HN11:=zk PN
      have qN:((N:Int) < (N:Int)+1)=True:=eq_true (by omega)
      clear PN
      go_region_law (refine step_append_cells (W:=wr.drew) (w0:=w0) w0.heap.size rfl (.tmp 50) (.tmp 53) 52 54 (.agg #[.int .i64 0,.string ⟨#[]⟩,.slice none 0 0]) 3 48 rfl Tryz.underlying52 inf35 rfl (by decide) (by decide) (.slice Aun N cun) N ((nodes ++ nn).flatMap Nd.cells) [.int .i64 0,.string ⟨#[]⟩,.slice none 0 0] rfl rfl rfl (by intro u hu;simp at hu;rcases hu with rfl|rfl|rfl <;> rfl) HN11.out (below_drew HB.out) HB.out.size (by omega) ?_;intro v8 w8 hown8 hb8 hg8 hat8;obtain ⟨g8,cap8,hv8,L8,_⟩:=hown8.form (by omega);subst hv8;obtain ⟨p0,p1,p2,⟨cur8,hc8⟩,hst8⟩:=last3 hown8 HN11.out.1;have hg8':w8.heap[g]? = _:=(hg8.block g l2 (own_ne HN11.out PA.out.z (by decide))).trans PA.out.z;have hne8:g ≠ g8:=blk_ne hg8' hc8 (by decide);have r0:=blk_frozen hc8 (N * 3);have r1:=blk_frozen hc8 (N * 3+1);have r2:=blk_frozen hc8 (N * 3+2);clear z0 z1 z2 z3 f0 f1 f2 f3 y0 y1 y2 g0 g1 g2;obtain ⟨z0,z1,z2,z3,f0,f1,f2,f3⟩:=blk4 hg8';have O8:=zk hown8;have B8:=zk hb8;have G8:=zk hg8;have T8:=zk hat8;have C8:=zk hc8;have H8:=zk hg8';have S8:=zk hst8;clear hown8 hb8 hg8 hat8 hc8 hg8' hst8)
      all_goals (
       try go_wp2
       go_meet
       case rel =>
        have r:=leaf_n x PA.out HNN.out L8 hgb _ _ _ (S8.out (.int .i64 k) (.string bs) (.slice A xs.length c)) (by rw [HXE.out];rfl) hne8 C8.out H8.out G8.out T8.out B8.out
        first
         | exact ⟨_,⟨r.1.1⟩,⟨HS.out.trans r.1.2.1⟩,⟨r.1.2.2⟩⟩
         | exact ⟨_,⟨r.2.1⟩,⟨HS.out.trans r.2.2.1⟩,⟨r.2.2.2⟩⟩)
     case rest =>
      clear z0 z1 z2 z3 f0 f1 f2 f3 PA HS HB
      obtain ⟨un2,PB,SB,BB⟩:=hcut
      obtain ⟨N,hN⟩:∃ N,(nodes ++ nn).length=N:=⟨_,rfl⟩
      have hN9:N≤1000:=by rw [← hN,List.length_append];omega
      have HNN:=zk hN
      have PBA:wc.ownsRow w0.heap.size 48 1 ua N ((nodes ++ nn).map Nd.av):=by rw [← hN];exact PB.out.a
      replace PBA:=zk PBA
      clear hN hl9
      obtain ⟨Aua,cua,hua⟩:=own_slice PBA.out
      subst hua
      obtain ⟨z0,z1,z2,z3,f0,f1,f2,f3⟩:=blk4 PB.out.z
      go_upto_region 13 with (first
       | (at_builtin;refine print_append_cells (w0:=w0) w0.heap.size rfl (.tmp 62) (.tmp 64) 108 48 (.slice none 0 0) 1 24 rfl Tryz.underlying108 inf25 rfl (by decide) (by decide) (.slice Aua N cua) N ((nodes ++ nn).map Nd.av) [(.slice aA ars.length ac)] rfl rfl rfl (by intro u hu;rw [List.mem_singleton.1 hu];rfl) PBA.out BB.out BB.out.size (by omega) ?_;intro va8 w8 hown8 hb8 hg8 hat8;obtain ⟨Ava8,cva8,hv8⟩:=own_slice hown8;subst hv8;have G8:=zk (PB.out.grow_a x (by rw [HNN.out,HXE.out];exact hown8) hg8 hat8);have B8:=zk hb8;have hg8':=(hg8.block g (blk_lt PB.out.z) (own_ne PBA.out PB.out.z (by decide))).trans PB.out.z;clear z0 z1 z2 z3 f0 f1 f2 f3;obtain ⟨z0,z1,z2,z3,f0,f1,f2,f3⟩:=blk4 hg8';clear hg8' hown8 hb8 hg8 hat8))
      have PC:=zk G8.out.1
      have SC:=zk (SB.out.trans G8.out.2)
      have BC:=zk (show Below w0.heap.size w0 (w8.setCell ⟨g,2,none⟩ (.slice Ava8 (N+1) cva8)) from B8.out.setCell hgb _)
      clear z0 z1 z2 z3 f0 f1 f2 f3 G8 B8 PB SB BB PBA
      generalize w8.setCell ⟨g,2,none⟩ (.slice Ava8 (N+1) cva8)=w9 at *
      have PCM:w9.ownsRow w0.heap.size 108 1 um N ((nodes ++ nn).map (Nd.mv (s.size+1))):=by rw [← HNN.out];exact PC.out.m
      replace PCM:=zk PCM
      obtain ⟨Aum,cum,hum⟩:=own_slice PCM.out
      subst hum
      obtain ⟨z0,z1,z2,z3,f0,f1,f2,f3⟩:=blk4 PC.out.z
      go_upto_region 14 with (first
       | (at_builtin;refine print_append_cells (w0:=w0) w0.heap.size rfl (.tmp 72) (.tmp 74) 109 108 (.slice none 0 0) 1 24 rfl Tryz.underlying109 inf92 rfl (by decide) (by decide) (.slice Aum N cum) N ((nodes ++ nn).map (Nd.mv (s.size+1))) [(.slice (some ⟨tb,0,none⟩) (s.size+1) tc)] rfl rfl rfl (by intro u hu;rw [List.mem_singleton.1 hu];rfl) PCM.out BC.out BC.out.size (by omega) ?_;intro vm8 w8 hown8 hb8 hg8 hat8;obtain ⟨Avm8,cvm8,hv8⟩:=own_slice hown8;subst hv8;have G8:=zk (PC.out.grow_m x (by rw [HNN.out,HXE.out];exact hown8) hg8 hat8);have B8:=zk hb8;have hg8':=(hg8.block g (blk_lt PC.out.z) (own_ne PCM.out PC.out.z (by decide))).trans PC.out.z;clear z0 z1 z2 z3 f0 f1 f2 f3;obtain ⟨z0,z1,z2,z3,f0,f1,f2,f3⟩:=blk4 hg8';clear hg8' hown8 hb8 hg8 hat8))
      have PD:=zk G8.out.1
      have SD:=zk (SC.out.trans G8.out.2)
      have BD:=zk (show Below w0.heap.size w0 (w8.setCell ⟨g,3,none⟩ (.slice Avm8 (N+1) cvm8)) from B8.out.setCell hgb _)
      clear z0 z1 z2 z3 f0 f1 f2 f3 G8 B8 PC SC BC PCM
      generalize w8.setCell ⟨g,3,none⟩ (.slice Avm8 (N+1) cvm8)=w9 at *
      have PDN:w9.ownsRow w0.heap.size 54 3 un2 (N+1) ((nodes ++ nn ++ [x]).flatMap Nd.cells):=by rw [show N+1=(nodes ++ nn ++ [x]).length by rw [List.length_append,HNN.out];rfl];exact PD.out.n
      replace PDN:=zk PDN
      obtain ⟨Aun,cun,hun⟩:=own_slice PDN.out
      subst hun
      obtain ⟨z0,z1,z2,z3,f0,f1,f2,f3⟩:=blk4 PD.out.z
      go_wp2
      go_ret
      refine ⟨(N:Int),nn ++ [x],_,_,_,za93,by rw [← List.append_assoc];exact PD.out,SD.out,?_,⟨ars,nn,x,rfl,by rw [← HNN.out,List.length_append],HE.out,?_,?_,?_⟩,BD.out⟩
      ·intro b hb
       rw [List.flatMap_append] at hb
       rcases List.mem_append.1 hb with hb|hb
       ·exact HF.out b hb
       ·exact HXB.out b (by simpa using hb)
      all_goals rw [HXE.out]
def Nf:Rx→Nat→List Nd→Prop
 | .none,_,nn=>∃ x:Nd,nn = [x]∧x.k=1∧x.ars = []
 | .empty,_,nn=>∃ x:Nd,nn = [x]∧x.k=2∧x.ars = []
 | .any,_,nn=>∃ x:Nd,nn = [x]∧x.k=4∧x.ars = []
 | .letter b,_,nn=>∃ x:Nd,nn = [x]∧x.k=3∧x.l=b∧x.ars = []
 | .not t,p,nn=>∃ (n1:List Nd) (x:Nd),nn=n1 ++ [x]∧Nf t p n1∧x.k=9∧x.ars = [((p+t.size - 1:Nat):Int)]
 | .star t,p,nn=>∃ (n1:List Nd) (x:Nd),nn=n1 ++ [x]∧Nf t p n1∧x.k=8∧x.ars = [((p+t.size - 1:Nat):Int)]
 | .cat t u,p,nn=>∃ (n1 n2:List Nd) (x:Nd),nn=n1 ++ n2 ++ [x]∧Nf t p n1∧Nf u (p+t.size) n2∧x.k=5∧x.ars = [((p+t.size - 1:Nat):Int),((p+t.size+u.size - 1:Nat):Int)]
 | .or t u,p,nn=>∃ (n1 n2:List Nd) (x:Nd),nn=n1 ++ n2 ++ [x]∧Nf t p n1∧Nf u (p+t.size) n2∧x.k=6∧x.ars = [((p+t.size - 1:Nat):Int),((p+t.size+u.size - 1:Nat):Int)]
 | .and t u,p,nn=>∃ (n1 n2:List Nd) (x:Nd),nn=n1 ++ n2 ++ [x]∧Nf t p n1∧Nf u (p+t.size) n2∧x.k=7∧x.ars = [((p+t.size - 1:Nat):Int),((p+t.size+u.size - 1:Nat):Int)]
theorem Nf.len:∀ {t:Rx} {p:Nat} {nn:List Nd},Nf t p nn→nn.length=t.size:=by
 intro t
 induction t with
 | none=>rintro p nn ⟨x,rfl,_⟩;rfl
 | empty=>rintro p nn ⟨x,rfl,_⟩;rfl
 | any=>rintro p nn ⟨x,rfl,_⟩;rfl
 | letter b=>rintro p nn ⟨x,rfl,_⟩;rfl
 | not t ih=>rintro p nn ⟨n1,x,rfl,h,_⟩;simp only [List.length_append,List.length_cons,List.length_nil,Rx.size,ih h];omega
 | star t ih=>rintro p nn ⟨n1,x,rfl,h,_⟩;simp only [List.length_append,List.length_cons,List.length_nil,Rx.size,ih h];omega
 | cat t u iht ihu=>rintro p nn ⟨n1,n2,x,rfl,h,h',_⟩;simp only [List.length_append,List.length_cons,List.length_nil,Rx.size,iht h,ihu h'];omega
 | or t u iht ihu=>rintro p nn ⟨n1,n2,x,rfl,h,h',_⟩;simp only [List.length_append,List.length_cons,List.length_nil,Rx.size,iht h,ihu h'];omega
 | and t u iht ihu=>rintro p nn ⟨n1,n2,x,rfl,h,h',_⟩;simp only [List.length_append,List.length_cons,List.length_nil,Rx.size,iht h,ihu h'];omega
theorem APost.imp {w0 W:World} {g:Nat} {s:ByteArray} {L:Nat} {nodes:List Nd} {vn va vm:Value} {Q Q':Int→List Nd→Prop} {e:Ending} {W':World} (h:APost w0 W g s L nodes vn va vm Q e W') (hq:∀ num n2,Q num n2→Q' num n2):APost w0 W g s L nodes vn va vm Q' e W':=by
 obtain ⟨num,n2,vn',va',vm',h1,h2,h3,h4,h5,h6⟩:=h
 exact ⟨num,n2,vn',va',vm',h1,h2,h3,h4,hq _ _ h5,h6⟩
def AddAt (w0:World) (g:Nat) (s:ByteArray) (L:Nat) (x:S54) (t:Rx):Prop :=
 ∀ (A:Option Addr) (c:Nat) (nodes:List Nd) (vn va vm:Value) (W:World),x.f2.length≤c→Kd.C k54 w0 A x.f2.length x.f2→nodes.length+t.size≤1000→P3 W w0.heap.size g s L nodes nodes nodes nodes vn va vm→Below w0.heap.size w0 W →
  Calls Tryz.prog 103 #[.pointer (some ⟨g,0,none⟩),.agg #[.int .i64 x.f0,.string x.f1,.slice A x.f2.length c]] W (APost w0 W g s L nodes vn va vm fun num n2=>Nf t nodes.length n2∧num=((nodes.length+t.size - 1:Nat):Int))
section
variable (w0 : World) (g : Nat) (s : ByteArray) (L : Nat) (hsL : s.size + 1 = L) (hL : L ≤ 401) (hgb : w0.heap.size ≤ g)
include hsL hL hgb
theorem add_leaf (k:Int) (bs:ByteArray) (t:Rx) (hsz:t.size=1) (hN:∀ (p:Nat) (y:Nd),y.k=k→y.l=bs→y.ars = []→Nf t p [y]):AddAt w0 g s L ⟨k,bs,[]⟩ t:=by
 intro A c nodes vn va vm W hc hC h1 hP hB
 refine (add_walk w0 g s L hsL hL k bs [] A c hC hc (by simp) nodes vn va vm W hP hgb hB (fun kk ars nn=>kk=0∧ars = []∧nn = []) ⟨rfl,rfl,rfl⟩ ?_ ?_).mono ?_
 ·rintro kk ars nn ⟨rfl,rfl,rfl⟩
  exact ⟨rfl,by simp;omega⟩
 ·intro kk h
  exact absurd h (by simp)
 ·intro e W' h
  refine h.imp ?_
  rintro num n2 ⟨ars,nn,x,rfl,rfl,⟨_,rfl,rfl⟩,h1,h2,h3⟩
  exact ⟨hN _ _ h1 h2 h3,by rw [hsz];simp⟩
theorem add_one (k:Int) (bs:ByteArray) (y:S54) (t u:Rx) (hy:AddAt w0 g s L y u) (hsz:t.size=1+u.size) (hN:∀ (p:Nat) (n1:List Nd) (z:Nd),Nf u p n1→z.k=k→z.l=bs→z.ars = [((p+u.size - 1:Nat):Int)]→Nf t p (n1 ++ [z])):AddAt w0 g s L ⟨k,bs,[y]⟩ t:=by
 intro A c nodes vn va vm W hc hC h1 hP hB
 have hu:=u.size_pos
 refine (add_walk w0 g s L hsL hL k bs [y] A c hC hc (by simp) nodes vn va vm W hP hgb hB (fun kk ars nn=>(kk=0∧ars = []∧nn = [])∨(kk=1∧ars = [((nodes.length+u.size - 1:Nat):Int)]∧Nf u nodes.length nn)) (.inl ⟨rfl,rfl,rfl⟩) ?_ ?_).mono ?_
 ·rintro kk ars nn (⟨rfl,rfl,rfl⟩|⟨rfl,rfl,h⟩)
  ·exact ⟨rfl,by simp;omega⟩
  ·exact ⟨rfl,by rw [h.len];omega⟩
 ·intro kk h ars nn hE A2 c2 un ua um W' hc2 hC2 hP2 hB2
  obtain rfl:kk=0:=by simp at h;omega
  rcases hE with ⟨_,rfl,rfl⟩|⟨h,_⟩
  ·refine (hy A2 c2 (nodes ++ []) un ua um W' hc2 hC2 (by simp;omega) hP2 hB2).mono fun e W2 h=>h.imp ?_
   rintro num n2 ⟨h1,h2⟩
   exact .inr ⟨rfl,by simp [h2],by simpa using h1⟩
  ·exact absurd h (by decide)
 ·intro e W' h
  refine h.imp ?_
  rintro num n2 ⟨ars,nn,x,rfl,rfl,hE,h1,h2,h3⟩
  rcases hE with ⟨h,_⟩|⟨_,rfl,h⟩
  ·exact absurd h (by simp)
  ·exact ⟨hN _ _ _ h h1 h2 h3,by rw [hsz,h.len];congr 1;omega⟩
theorem add_two (k:Int) (bs:ByteArray) (y z:S54) (t u v:Rx) (hy:AddAt w0 g s L y u) (hz:AddAt w0 g s L z v) (hsz:t.size=1+u.size+v.size) (hN:∀ (p:Nat) (n1 n2:List Nd) (x:Nd),Nf u p n1→Nf v (p+u.size) n2→x.k=k→x.l=bs→x.ars = [((p+u.size - 1:Nat):Int),((p+u.size+v.size - 1:Nat):Int)]→Nf t p (n1 ++ n2 ++ [x])):AddAt w0 g s L ⟨k,bs,[y,z]⟩ t:=by
 intro A c nodes vn va vm W hc hC h1 hP hB
 have hu:=u.size_pos
 have hv:=v.size_pos
 refine (add_walk w0 g s L hsL hL k bs [y,z] A c hC hc (by simp) nodes vn va vm W hP hgb hB (fun kk ars nn=>(kk=0∧ars = []∧nn = [])∨(kk=1∧ars = [((nodes.length+u.size - 1:Nat):Int)]∧Nf u nodes.length nn)∨(kk=2∧ars = [((nodes.length+u.size - 1:Nat):Int),((nodes.length+u.size+v.size - 1:Nat):Int)]∧∃ n1 n2,nn=n1 ++ n2∧Nf u nodes.length n1∧Nf v (nodes.length+u.size) n2)) (.inl ⟨rfl,rfl,rfl⟩) ?_ ?_).mono ?_
 ·rintro kk ars nn (⟨rfl,rfl,rfl⟩|⟨rfl,rfl,h⟩|⟨rfl,rfl,n1,n2,rfl,h,h'⟩)
  ·exact ⟨rfl,by simp;omega⟩
  ·exact ⟨rfl,by rw [h.len];omega⟩
  ·exact ⟨rfl,by rw [List.length_append,h.len,h'.len];omega⟩
 ·intro kk h ars nn hE A2 c2 un ua um W' hc2 hC2 hP2 hB2
  match kk,h with
  | 0,h =>
   rcases hE with ⟨_,rfl,rfl⟩|⟨h,_⟩|⟨h,_⟩
   ·refine (hy A2 c2 (nodes ++ []) un ua um W' hc2 hC2 (by simp;omega) hP2 hB2).mono fun e W2 h=>h.imp ?_
    rintro num n2 ⟨h1,h2⟩
    exact .inr (.inl ⟨rfl,by simp [h2],by simpa using h1⟩)
   ·exact absurd h (by decide)
   ·exact absurd h (by decide)
  | 1,h =>
   rcases hE with ⟨h,_⟩|⟨_,rfl,hn⟩|⟨h,_⟩
   ·exact absurd h (by decide)
   ·have hl:(nodes ++ nn).length=nodes.length+u.size:=by rw [List.length_append,hn.len]
    refine (hz A2 c2 (nodes ++ nn) un ua um W' hc2 hC2 (by omega) hP2 hB2).mono fun e W2 h=>h.imp ?_
    rintro num n2 ⟨h1,h2⟩
    rw [hl] at h1 h2
    exact .inr (.inr ⟨rfl,by rw [h2];rfl,nn,n2,rfl,hn,h1⟩)
   ·exact absurd h (by decide)
  | kk+2,h=>exact absurd h (by simp)
 ·intro e W' h
  refine h.imp ?_
  rintro num n2 ⟨ars,nn,x,rfl,rfl,hE,h1,h2,h3⟩
  rcases hE with ⟨h,_⟩|⟨h,_⟩|⟨_,rfl,n1,n2,rfl,h,h'⟩
  ·exact absurd h (by simp)
  ·exact absurd h (by simp)
  ·exact ⟨hN _ _ _ _ h h' h1 h2 h3,by rw [hsz,List.length_append,h.len,h'.len];congr 1;omega⟩
theorem add_all {x:S54} {t:Rx} (h:IsRx x t):AddAt w0 g s L x t:=by
 induction h with
 | none b=>exact add_leaf w0 g s L hsL hL hgb 1 b _ rfl fun p y h1 h2 h3=>⟨y,rfl,h1,h3⟩
 | empty b=>exact add_leaf w0 g s L hsL hL hgb 2 b _ rfl fun p y h1 h2 h3=>⟨y,rfl,h1,h3⟩
 | any b=>exact add_leaf w0 g s L hsL hL hgb 4 b _ rfl fun p y h1 h2 h3=>⟨y,rfl,h1,h3⟩
 | letter b=>exact add_leaf w0 g s L hsL hL hgb 3 b _ rfl fun p y h1 h2 h3=>⟨y,rfl,h1,h2,h3⟩
 | cat b hx hy ihx ihy=>exact add_two w0 g s L hsL hL hgb 5 b _ _ _ _ _ ihx ihy rfl fun p n1 n2 x h h' h1 h2 h3=>⟨n1,n2,x,rfl,h,h',h1,h3⟩
 | or b hx hy ihx ihy=>exact add_two w0 g s L hsL hL hgb 6 b _ _ _ _ _ ihx ihy rfl fun p n1 n2 x h h' h1 h2 h3=>⟨n1,n2,x,rfl,h,h',h1,h3⟩
 | and b hx hy ihx ihy=>exact add_two w0 g s L hsL hL hgb 7 b _ _ _ _ _ ihx ihy rfl fun p n1 n2 x h h' h1 h2 h3=>⟨n1,n2,x,rfl,h,h',h1,h3⟩
 | star b hx ih=>exact add_one w0 g s L hsL hL hgb 8 b _ _ _ ih rfl fun p n1 z h h1 h2 h3=>⟨n1,z,rfl,h,h1,h3⟩
 | not b hx ih=>exact add_one w0 g s L hsL hL hgb 9 b _ _ _ ih rfl fun p n1 z h h1 h2 h3=>⟨n1,z,rfl,h,h1,h3⟩
end
def subs:Rx→List Rx
 | .cat a b=>subs a ++ subs b ++ [.cat a b]
 | .or a b=>subs a ++ subs b ++ [.or a b]
 | .and a b=>subs a ++ subs b ++ [.and a b]
 | .star a=>subs a ++ [.star a]
 | .not a=>subs a ++ [.not a]
 | t => [t]
theorem subs_len (t:Rx):(subs t).length=t.size:=by
 induction t with
 | cat t u iht ihu=>simp only [subs,List.length_append,List.length_cons,List.length_nil,Rx.size,iht,ihu];omega
 | or t u iht ihu=>simp only [subs,List.length_append,List.length_cons,List.length_nil,Rx.size,iht,ihu];omega
 | and t u iht ihu=>simp only [subs,List.length_append,List.length_cons,List.length_nil,Rx.size,iht,ihu];omega
 | star t ih=>simp only [subs,List.length_append,List.length_cons,List.length_nil,Rx.size,ih];omega
 | not t ih=>simp only [subs,List.length_append,List.length_cons,List.length_nil,Rx.size,ih];omega
 | _=>rfl
def nd0:Nd:=⟨0,⟨#[]⟩,.slice none 0 0,[],none,0,0,0,[]⟩
def At {α:Type} (big:List α) (p:Nat) (xs:List α):Prop:=∀ (i:Nat) (x:α),xs[i]? = some x→big[p+i]? = some x
theorem At.left {α:Type} {big xs ys:List α} {p:Nat} (h:At big p (xs ++ ys)):At big p xs:=fun i x hx=>h i x (by
 have:i < xs.length:=by
  rcases Nat.lt_or_ge i xs.length with h|h
  ·exact h
  ·rw [List.getElem?_eq_none h] at hx;cases hx
 rw [List.getElem?_append_left this];exact hx)
theorem At.right {α:Type} {big xs ys:List α} {p:Nat} (h:At big p (xs ++ ys)):At big (p+xs.length) ys:=fun i x hx=>by
 have:=h (xs.length+i) x (by rw [List.getElem?_append_right (by omega)];simpa using hx)
 rwa [← Nat.add_assoc] at this
theorem At.one {α:Type} {big:List α} {p:Nat} {x:α} (h:At big p [x]):big[p]? = some x:=h 0 x rfl
theorem ft_of (l:Lay) (s:ByteArray) (S:List Rx) (nodes:List Nd) (hk:∀ q,l.kd q=((nodes[q]?).getD nd0).k) (hl:∀ q,l.lt q=((nodes[q]?).getD nd0).l) (ha:∀ q,l.ar q=((nodes[q]?).getD nd0).ars) :
  ∀ (t:Rx) (p:Nat) (nn:List Nd),Nf t p nn→At nodes p nn→At S p (subs t)→FT l s (fun q i j=>mt s ((S[q]?).getD .none) i j) t (p+t.size - 1) p:=by
 have rk:∀ q x,nodes[q]? = some x→l.kd q=x.k:=fun q x h=>by rw [hk,h];rfl
 have rl:∀ q x,nodes[q]? = some x→l.lt q=x.l:=fun q x h=>by rw [hl,h];rfl
 have ra:∀ q x,nodes[q]? = some x→l.ar q=x.ars:=fun q x h=>by rw [ha,h];rfl
 have rT:∀ (q:Nat) (u:Rx),S[q]? = some u→∀ i j,(fun q i j=>mt s ((S[q]?).getD .none) i j) q i j=mt s u i j:=fun q u h i j=>by simp only [h];rfl
 intro t
 induction t with
 | none=>rintro p nn ⟨x,rfl,h1,h2⟩ hn hS;exact ⟨rfl,rT _ _ hS.one,(rk _ _ hn.one).trans h1⟩
 | empty=>rintro p nn ⟨x,rfl,h1,h2⟩ hn hS;exact ⟨rfl,rT _ _ hS.one,(rk _ _ hn.one).trans h1⟩
 | any=>rintro p nn ⟨x,rfl,h1,h2⟩ hn hS;exact ⟨rfl,rT _ _ hS.one,(rk _ _ hn.one).trans h1⟩
 | letter b=>rintro p nn ⟨x,rfl,h1,h2,h3⟩ hn hS;exact ⟨rfl,rT _ _ hS.one,(rk _ _ hn.one).trans h1,(rl _ _ hn.one).trans h2⟩
 | not t ih =>
  rintro p nn ⟨n1,x,rfl,h,h1,h2⟩ hn hS
  have hp:=t.size_pos
  have e:p+(Rx.not t).size - 1=p+t.size:=by simp only [Rx.size];omega
  have hx:=hn.right.one
  have hs:=At.one (At.right (xs:=subs t) hS)
  rw [h.len] at hx
  rw [subs_len] at hs
  rw [e]
  exact ⟨by omega,rT _ _ hs,(rk _ _ hx).trans h1,p+t.size - 1,(ra _ _ hx).trans h2,by omega,ih p n1 h hn.left (At.left hS)⟩
 | star t ih =>
  rintro p nn ⟨n1,x,rfl,h,h1,h2⟩ hn hS
  have hp:=t.size_pos
  have e:p+(Rx.star t).size - 1=p+t.size:=by simp only [Rx.size];omega
  have hx:=hn.right.one
  have hs:=At.one (At.right (xs:=subs t) hS)
  rw [h.len] at hx
  rw [subs_len] at hs
  rw [e]
  exact ⟨by omega,rT _ _ hs,(rk _ _ hx).trans h1,p+t.size - 1,(ra _ _ hx).trans h2,by omega,ih p n1 h hn.left (At.left hS)⟩
 | cat t u iht ihu =>
  rintro p nn ⟨n1,n2,x,rfl,h,h',h1,h2⟩ hn hS
  have hp:=t.size_pos
  have hp':=u.size_pos
  have e:p+(Rx.cat t u).size - 1=p+t.size+u.size:=by simp only [Rx.size];omega
  have hx:=hn.right.one
  have hs:=At.one (At.right (xs:=subs t ++ subs u) hS)
  have hn2:=hn.left.right
  have hS2:=At.right (xs:=subs t) (At.left (xs:=subs t ++ subs u) hS)
  rw [List.length_append,h.len,h'.len,← Nat.add_assoc] at hx
  rw [List.length_append,subs_len,subs_len,← Nat.add_assoc] at hs
  rw [h.len] at hn2
  rw [subs_len] at hS2
  rw [e]
  refine ⟨by omega,rT _ _ hs,(rk _ _ hx).trans h1,p+t.size - 1,p+t.size+u.size - 1,(ra _ _ hx).trans h2,by omega,iht p n1 h hn.left.left (At.left (At.left (xs:=subs t ++ subs u) hS)),?_⟩
  rw [show p+t.size - 1+1=p+t.size by omega]
  exact ihu (p+t.size) n2 h' hn2 hS2
 | or t u iht ihu =>
  rintro p nn ⟨n1,n2,x,rfl,h,h',h1,h2⟩ hn hS
  have hp:=t.size_pos
  have hp':=u.size_pos
  have e:p+(Rx.or t u).size - 1=p+t.size+u.size:=by simp only [Rx.size];omega
  have hx:=hn.right.one
  have hs:=At.one (At.right (xs:=subs t ++ subs u) hS)
  have hn2:=hn.left.right
  have hS2:=At.right (xs:=subs t) (At.left (xs:=subs t ++ subs u) hS)
  rw [List.length_append,h.len,h'.len,← Nat.add_assoc] at hx
  rw [List.length_append,subs_len,subs_len,← Nat.add_assoc] at hs
  rw [h.len] at hn2
  rw [subs_len] at hS2
  rw [e]
  refine ⟨by omega,rT _ _ hs,(rk _ _ hx).trans h1,p+t.size - 1,p+t.size+u.size - 1,(ra _ _ hx).trans h2,by omega,iht p n1 h hn.left.left (At.left (At.left (xs:=subs t ++ subs u) hS)),?_⟩
  rw [show p+t.size - 1+1=p+t.size by omega]
  exact ihu (p+t.size) n2 h' hn2 hS2
 | and t u iht ihu =>
  rintro p nn ⟨n1,n2,x,rfl,h,h',h1,h2⟩ hn hS
  have hp:=t.size_pos
  have hp':=u.size_pos
  have e:p+(Rx.and t u).size - 1=p+t.size+u.size:=by simp only [Rx.size];omega
  have hx:=hn.right.one
  have hs:=At.one (At.right (xs:=subs t ++ subs u) hS)
  have hn2:=hn.left.right
  have hS2:=At.right (xs:=subs t) (At.left (xs:=subs t ++ subs u) hS)
  rw [List.length_append,h.len,h'.len,← Nat.add_assoc] at hx
  rw [List.length_append,subs_len,subs_len,← Nat.add_assoc] at hs
  rw [h.len] at hn2
  rw [subs_len] at hS2
  rw [e]
  refine ⟨by omega,rT _ _ hs,(rk _ _ hx).trans h1,p+t.size - 1,p+t.size+u.size - 1,(ra _ _ hx).trans h2,by omega,iht p n1 h hn.left.left (At.left (At.left (xs:=subs t ++ subs u) hS)),?_⟩
  rw [show p+t.size - 1+1=p+t.size by omega]
  exact ihu (p+t.size) n2 h' hn2 hS2
theorem blks_apart:∀ {nodes:List Nd},(nodes.flatMap Nd.blks).Nodup→(∀ (q:Nat) (x:Nd),nodes[q]? = some x→x.blks.Nodup)∧∀ (q q':Nat) (x x':Nd),nodes[q]? = some x→nodes[q']? = some x'→q ≠ q'→∀ b,b ∈ x.blks→b ∈ x'.blks→False:=by
 intro nodes
 induction nodes with
 | nil=>intro _;exact ⟨fun q x h=>by simp at h,fun q q' x x' h=>by simp at h⟩
 | cons y ys ih =>
  intro h
  rw [List.flatMap_cons,List.nodup_append] at h
  obtain ⟨h1,h2,h3⟩:=h
  obtain ⟨i1,i2⟩:=ih h2
  have hin:∀ (q:Nat) (x:Nd),ys[q]? = some x→∀ b,b ∈ x.blks→b ∈ ys.flatMap Nd.blks:=fun q x hx b hb=>List.mem_flatMap.2 ⟨x,List.mem_of_getElem? hx,hb⟩
  refine ⟨fun q x hx=>?_,fun q q' x x' hx hx' hne b hb hb' => ?_⟩
  ·match q,hx with
   | 0,hx=>simp at hx;subst hx;exact h1
   | q+1,hx=>exact i1 q x (by simpa using hx)
  ·match q,q',hx,hx',hne with
   | 0,0,_,_,hne=>exact hne rfl
   | 0,q'+1,hx,hx',_=>simp at hx;subst hx;exact h3 b hb b (hin q' x' (by simpa using hx') b hb') rfl
   | q+1,0,hx,hx',_=>simp at hx';subst hx';exact h3 b hb' b (hin q x (by simpa using hx) b hb) rfl
   | q+1,q'+1,hx,hx',hne=>exact i2 q q' x x' (by simpa using hx) (by simpa using hx') (by omega) b hb hb'
theorem cells_at {nodes:List Nd} : ∀ (q:Nat) (x:Nd),nodes[q]? = some x→(nodes.flatMap Nd.cells)[q * 3]? = some (.int .i64 x.k)∧(nodes.flatMap Nd.cells)[q * 3+1]? = some (.string x.l):=by
 induction nodes with
 | nil=>intro q x h;simp at h
 | cons y ys ih =>
  intro q x h
  match q,h with
  | 0,h=>simp at h;subst h;exact ⟨rfl,rfl⟩
  | q+1,h =>
   have:=ih q x (by simpa using h)
   have e:(y :: ys).flatMap Nd.cells = [.int .i64 y.k,.string y.l,y.sv] ++ ys.flatMap Nd.cells:=rfl
   rw [e,show (q+1) * 3=q * 3+3 by omega,List.getElem?_append_right (by simp),List.getElem?_append_right (by simp)]
   exact ⟨by simpa using this.1,by simpa using this.2⟩
def layOf (nodes:List Nd) (bn cn ba ca bm cm:Nat):Lay :=
 { N:=nodes.length,bn:=bn,ba:=ba,bm:=bm,cn:=cn,ca:=ca,cm:=cm,kd:=fun q=>((nodes[q]?).getD nd0).k,lt:=fun q=>((nodes[q]?).getD nd0).l,ar:=fun q=>((nodes[q]?).getD nd0).ars,aA:=fun q=>((nodes[q]?).getD nd0).aA,ac:=fun q=>((nodes[q]?).getD nd0).ac,tb:=fun q=>((nodes[q]?).getD nd0).tb,tc:=fun q=>((nodes[q]?).getD nd0).tc,rb:=fun q i=>((nodes[q]?).getD nd0).rows.getD i 0 }
theorem lay_ok {w0 W:World} {g:Nat} {s:ByteArray} {L:Nat} {nodes:List Nd} {vn va vm:Value} (h:P3 W w0.heap.size g s L nodes nodes nodes nodes vn va vm) (hN:0 < nodes.length) :
  ∃ bn cn ba ca bm cm,LayOk (layOf nodes bn cn ba ca bm cm) w0 W g s L∧SSt (layOf nodes bn cn ba ca bm cm) W L (fun _ _=>List.replicate L 0) W:=by
 obtain ⟨bn,cn,rfl,_,ln⟩:=h.n.form hN
 obtain ⟨ba,ca,rfl,_,la⟩:=h.a.form hN
 obtain ⟨bm,cm,rfl,_,lm⟩:=h.m.form hN
 obtain ⟨nd1,nd2⟩:=blks_apart h.nd
 have nth:∀ q,q < nodes.length→∃ x,nodes[q]? = some x∧NOk W w0.heap.size L x∧x.blks.Nodup∧∀ b ∈ x.blks,Apt g (.slice (some ⟨bn,0,none⟩) nodes.length cn) (.slice (some ⟨ba,0,none⟩) nodes.length ca) (.slice (some ⟨bm,0,none⟩) nodes.length cm) b:=fun q hq =>
  ⟨nodes[q],List.getElem?_eq_getElem hq,h.ok _ (List.getElem_mem hq),nd1 q _ (List.getElem?_eq_getElem hq),fun b hb=>h.sep b (List.mem_flatMap.2 ⟨_,List.getElem_mem hq,hb⟩)⟩
 have rowmem:∀ q i x,nodes[q]? = some x→x.rows.length=L→i < L→(layOf nodes bn cn ba ca bm cm).rb q i ∈ x.rows∧x.rows[i]? = some ((layOf nodes bn cn ba ca bm cm).rb q i):=fun q i x hx hl hi=>by
  have e:(layOf nodes bn cn ba ca bm cm).rb q i=x.rows.getD i 0:=by simp only [layOf,hx,Option.getD_some]
  rw [e,List.getD_eq_getElem?_getD,List.getElem?_eq_getElem (by omega)]
  exact ⟨List.getElem_mem _,rfl⟩
 have ne_row:∀ k,(∀ b ∈ nodes.flatMap Nd.blks,k ≠ b)→∀ q i,q < nodes.length→i < L→k ≠ (layOf nodes bn cn ba ca bm cm).rb q i:=fun k hk q i hq hi=>by
  obtain ⟨x,hx,ok,_,_⟩:=nth q hq
  exact hk _ (List.mem_flatMap.2 ⟨x,List.mem_of_getElem? hx,by simp [Nd.blks,(rowmem q i x hx ok.len hi).1]⟩)
 have st_blk:∀ q x k,nodes[q]? = some x→q < nodes.length→NOk W w0.heap.size L x→k ∈ x.blks→k ∉ x.rows→(layOf nodes bn cn ba ca bm cm).St W L k:=fun q x k hx hq ok hk hkr=>⟨ok.lt k hk,fun q' i hq' hi e=>by
  obtain ⟨x',hx',ok',_,_⟩:=nth q' hq'
  have hm:=(rowmem q' i x' hx' ok'.len hi).1
  rw [← e] at hm
  by_cases hqq:q=q'
  ·subst hqq
   rw [hx] at hx'
   injection hx' with hx'
   subst hx'
   exact hkr hm
  ·exact nd2 q q' x x' hx hx' hqq k hk (by simp [Nd.blks,hm])⟩
 refine ⟨bn,cn,ba,ca,bm,cm,⟨h.z,fun q hq=>?_,fun q hq=>?_,fun q hq=>?_,fun q hq p hp=>?_,fun q hq=>?_,fun q i hq hi=>?_,⟨blk_lt h.z,ne_row _ fun b hb e=>(h.sep b hb).1 e.symm⟩,⟨ln,ne_row _ fun b hb e=>(h.sep b hb).2.1 (by rw [← e];rfl)⟩,⟨la,ne_row _ fun b hb e=>(h.sep b hb).2.2.1 (by rw [← e];rfl)⟩,⟨lm,ne_row _ fun b hb e=>(h.sep b hb).2.2.2 (by rw [← e];rfl)⟩,fun q hq=>?_,fun q i q' i' hq hi hq' hi' e=>?_,fun q i hq hi=>?_⟩,⟨fun _ _=>rfl,fun q i hq hi=>?_,Nat.le_refl _⟩⟩
 ·obtain ⟨x,hx,ok,_,_⟩:=nth q hq
  have:=h.n.cells (g:=bn) rfl (q * 3) _ (cells_at q x hx).1
  rw [add_plain] at this
  simpa only [layOf,hx,Option.getD_some] using this
 ·obtain ⟨x,hx,ok,_,_⟩:=nth q hq
  have:=h.n.cells (g:=bn) rfl (q * 3+1) _ (cells_at q x hx).2
  rw [add_plain] at this
  simpa only [layOf,hx,Option.getD_some] using this
 ·obtain ⟨x,hx,ok,_,_⟩:=nth q hq
  have:=h.a.cells (g:=ba) rfl q x.av (by rw [List.getElem?_map,hx];rfl)
  rw [add_plain] at this
  simp only [layOf,hx,Option.getD_some]
  exact this
 ·obtain ⟨x,hx,ok,hnd,_⟩:=nth q hq
  simp only [layOf,hx,Option.getD_some] at hp ⊢
  obtain ⟨ab,ac',e,_,l2⟩:=ok.a.form (by omega)
  have eA:x.aA=some ⟨ab,0,none⟩:=by simp only [Nd.av,Value.slice.injEq] at e;exact e.1
  refine ⟨ab,eA,?_,?_⟩
  ·have hin:ab ∈ x.av.ownBlock.toList:=by rw [e];simp [Value.ownBlock]
   refine st_blk q x ab hx hq ok (by simp [Nd.blks,hin]) fun hr=>?_
   simp only [Nd.blks,List.nodup_append] at hnd
   exact hnd.2.2 ab hin ab (List.mem_cons_of_mem _ hr) rfl
  ·have:=ok.a.cells (g:=ab) (by rw [e];rfl) p (.int .i64 (x.ars.getD p 0)) (by simp only [nums,List.getElem?_map,List.getD_eq_getElem?_getD,List.getElem?_eq_getElem hp];rfl)
   rw [add_plain] at this
   exact this
 ·obtain ⟨x,hx,ok,_,_⟩:=nth q hq
  have:=h.m.cells (g:=bm) rfl q (x.mv L) (by rw [List.getElem?_map,hx];rfl)
  rw [add_plain] at this
  simp only [layOf,hx,Option.getD_some]
  exact this
 ·obtain ⟨x,hx,ok,_,_⟩:=nth q hq
  have:=ok.t.cells (g:=x.tb) rfl i (.slice (some ⟨(layOf nodes bn cn ba ca bm cm).rb q i,0,none⟩) L L) (by rw [List.getElem?_map,(rowmem q i x hx ok.len hi).2];rfl)
  rw [add_plain] at this
  have et:(layOf nodes bn cn ba ca bm cm).tb q=x.tb:=by simp only [layOf,hx,Option.getD_some]
  rw [et]
  exact this
 ·obtain ⟨x,hx,ok,hnd,_⟩:=nth q hq
  have et:(layOf nodes bn cn ba ca bm cm).tb q=x.tb:=by simp only [layOf,hx,Option.getD_some]
  rw [et]
  refine st_blk q x x.tb hx hq ok (by simp [Nd.blks]) fun hr=>?_
  simp only [Nd.blks,List.nodup_append,List.nodup_cons] at hnd
  exact hnd.2.1.1 hr
 ·obtain ⟨x,hx,ok,hnd,_⟩:=nth q hq
  obtain ⟨x',hx',ok',_,_⟩:=nth q' hq'
  have m1:=rowmem q i x hx ok.len hi
  have m2:=rowmem q' i' x' hx' ok'.len hi'
  by_cases hqq:q=q'
  ·subst hqq
   refine ⟨rfl,?_⟩
   rw [hx] at hx'
   injection hx' with hx'
   subst hx'
   simp only [Nd.blks,List.nodup_append,List.nodup_cons] at hnd
   have hr:=hnd.2.1.2
   rw [← e] at m2
   obtain ⟨l1,e1⟩:=List.getElem?_eq_some_iff.1 m1.2
   obtain ⟨l2,e2⟩:=List.getElem?_eq_some_iff.1 m2.2
   have hpw:=List.pairwise_iff_getElem.1 hr
   rcases Nat.lt_trichotomy i i' with h|h|h
   ·exact absurd (e1.trans e2.symm) (hpw i i' l1 l2 h)
   ·exact h
   ·exact absurd (e2.trans e1.symm) (hpw i' i l2 l1 h)
  ·exact (nd2 q q' x x' hx hx' hqq ((layOf nodes bn cn ba ca bm cm).rb q i) (by simp [Nd.blks,m1.1]) (by rw [e];simp [Nd.blks,m2.1])).elim
 ·obtain ⟨x,hx,ok,_,_⟩:=nth q hq
  exact (ok.r _ (rowmem q i x hx ok.len hi).1).1
 ·obtain ⟨x,hx,ok,_,_⟩:=nth q hq
  exact ⟨(ok.r _ (rowmem q i x hx ok.len hi).1).2,List.length_replicate⟩
-- EXT loop.example/g00582/spec.l4Match making
def spec_l4Match.f (a0_0:Int) (a0_1:ByteArray) (l0_2:List S54) (a1:ByteArray):Option Bool:=rxMatch a0_0 a0_1 l0_2 a1
set_option maxHeartbeats 4000000 in
theorem spec_l4Match.calls (a0_0:Int) (a0_1:ByteArray) (A0_2:Option Addr) (c0_2:Nat) (l0_2:List S54) (a1:ByteArray) (r:Bool) (w:World) (hr0_2:Kd.C k54 w A0_2 l0_2.length l0_2) (hc0_2:l0_2.length≤c0_2) (h:spec_l4Match.f a0_0 a0_1 l0_2 a1=some r) :
  Calls Tryz.prog 91 #[.agg #[.int .i64 a0_0,.string a0_1,.slice A0_2 l0_2.length c0_2],.string a1] w fun e w'=>e = .returned (.bool r)∧Below w.heap.size w w':=by
 obtain ⟨t,hx,h16,h400,hr⟩:=rxMatch_some h
 subst hr
 have ht0:=t.size_pos
 obtain ⟨p,hp⟩:∃ p,t.size=p+1:=⟨t.size - 1,by omega⟩
 have HP:=zk hp
 have HR:=zk hr0_2
 have HC:=zk hc0_2
 have HX:=zk hx
 have H16:=zk h16
 have H400:=zk h400
 clear hr0_2 hc0_2 h hx hp h16
 have HB:=zk (Below.refl w.heap.size w)
 go_enter Tryz.func91,Tryz.ntmps91
 go_upto_region 2 with (first
  | ((with_reducible refine gate_dst (N:=2) rfl ?_);refine zE (cs:=#[.int .i64 a0_0,.string a0_1,.slice A0_2 l0_2.length c0_2]) (t:=54) ?_;intro gr hgr w3 hbox hb3;have X3:=zk hbox;have B3:=zk (below_step HB.out hb3);have G3:=zk (show w.heap.size≤gr by omega);clear hb3 hbox hgr)
  | ((with_reducible refine gate_dst (N:=9) rfl ?_);refine zE (cs:=#[.string a1,.slice none 0 0,.slice none 0 0,.slice none 0 0]) (t:=111) ?_;intro gz hgz w4 hbox hb4;have X4:=zk hbox;have Y4:=zk (blk_below X3.out hb4);have B4:=zk (below_step B3.out hb4);have G4:=zk (show w.heap.size≤gz by have:=B3.out.size;omega);clear hb4 hbox hgz))
 have P4:P3 w4 w.heap.size gz a1 (a1.size+1) [] [] [] [] (.slice none 0 0) (.slice none 0 0) (.slice none 0 0) :=
  ⟨X4.out,⟨rfl,.inl ⟨rfl,rfl⟩⟩,⟨rfl,.inl ⟨rfl,rfl⟩⟩,⟨rfl,.inl ⟨rfl,rfl⟩⟩,fun x hx=>absurd hx (by simp),List.nodup_nil,fun b hb=>absurd hb (by simp)⟩
 obtain ⟨y0,y1,y2,g0,g1,g2⟩:=blk3 Y4.out
 have CA:=zk (add_all w gz a1 (a1.size+1) rfl (by omega) G4.out HX.out A0_2 c0_2 [] _ _ _ w4 HC.out HR.out (by have:=H16.out;simp;omega) P4 B4.out)
 clear P4
 go_upto_region 3 with (go_at_call 103;(with_reducible refine CA.out.mono ?_);rintro e w9 ⟨num,n2,vn,va,vm,rfl,P9',S9,F9,⟨Q9',hnum⟩,B9'⟩;obtain rfl:num=(p:Int):=hnum.trans (by have:=HP.out;simp;omega);have P9:=zk P9';have Q9:=zk Q9';have B9:=zk B9';clear P9' Q9' B9' S9 F9 hnum)
 clear CA y0 y1 y2 g0 g1 g2
 have hl:n2.length=p+1:=Q9.out.len.trans HP.out
 obtain ⟨bn,cn,ba,ca,bm,cm,ok,st⟩:=lay_ok P9.out (by simp;omega)
 have hft:=ft_of (layOf ([] ++ n2) bn cn ba ca bm cm) a1 (subs t) ([] ++ n2) (fun _=>rfl) (fun _=>rfl) (fun _=>rfl) t 0 n2 Q9.out (fun i x hx=>by simpa using hx) (fun i x hx=>by simpa using hx)
 rw [show 0+t.size - 1=p by have:=HP.out;omega] at hft
 have CI:=zk (is_all (layOf ([] ++ n2) bn cn ba ca bm cm) w w9 gz a1 (a1.size+1) ok rfl (by omega) _ t p 0 (by show p < ([] ++ n2).length;simp;omega) hft 0 a1.size (p:Int) 0 (a1.size:Int) _ w9 rfl rfl rfl (Nat.zero_le _) (by omega) st (fun q i j _ _ _ hj => .inl (by rw [List.getD_eq_getElem?_getD,List.getElem?_replicate];split <;> rfl)) B9.out)
 clear ok st hft hl
 go_wp2_with (go_at_call 104;(with_reducible refine CI.out.mono ?_);rintro e w10 ⟨rfl,m9,S9,G9,SS9,B10⟩)
 go_ret
 exact ⟨rfl,B10⟩
end Go.Proofs.YtcbjhfoeecfcoaaGreat.Ext
namespace Go.Proofs.YtcbjhfoeecfcoaaGreat.A
open Go.RowKit YtcbjhfoeecfcoaaGreat.Ext YtcbjhfoeecfcoaaGreatW.PrintWords YtcbjhfoeecfcoaaGreatW.PrintLast YtcbjhfoeecfcoaaGreatW.PrintMore
attribute [local go_sem] max2_int min2_int max_two min_two max_three min_three max_four min_four
def spec_l1Bit.f (a0:Bool):Option (Int):=if a0=true then (some 1) else (some 0)
theorem spec_l1Bit.calls (a0:Bool) (r:Int) (w:World) (h:spec_l1Bit.f a0=some r) :
   Calls Tryz.prog 89 #[.bool a0] w fun e w'=>e = .returned (.int .i64 r)∧Drawn0 w w':=by
 have H:=h
 unfold spec_l1Bit.f at H
 clear h
 by_cases c2:a0=true
 subst c2
 have H1:(some 1)=some r:=by rw [if_pos rfl] at H;exact H
 rotate_left
 replace c2:=Bool.eq_false_iff.mpr c2
 subst c2
 have H1:(some 0)=some r:=by rw [if_neg zff] at H;exact H
 rotate_left
 all_goals
  clear H
  have H:=H1
  clear H1
  obtain rfl:=zi H
  go_enter Tryz.func89,Tryz.ntmps89
  go_wp2
  go_ret
  exact ⟨za33,za20⟩
def spec_l9Zero.f (a0_0:Int) (a0_1:ByteArray) (l0_2:List (S54)):Option (Bool):=if a0_0=0 then (if a0_1.toList=([]:List UInt8) then (some ((l0_2.length:Int) == 0)) else (some false)) else (some false)
theorem spec_l9Zero.calls (a0_0:Int) (a0_1:ByteArray) (A0_2:Option Addr) (c0_2:Nat) (l0_2:List (S54)) (r:Bool) (w:World) (hr0_2:Kd.C k54 w A0_2 l0_2.length l0_2) (hc0_2:l0_2.length≤c0_2) (h:spec_l9Zero.f a0_0 a0_1 l0_2=some r) :
   Calls Tryz.prog 74 #[.agg #[.int .i64 a0_0,.string a0_1,.slice A0_2 l0_2.length c0_2]] w fun e w'=>e = .returned (.bool r)∧Below w.heap.size w w':=by
 have hu54:=Tryz.underlying54
 have HR0_2:=zk hr0_2
 have HC0_2:=zk hc0_2
 clear hr0_2 hc0_2
 have HB:=zk (Below.refl w.heap.size w)
 have H:=h
 unfold spec_l9Zero.f at H
 clear h
 by_cases c2:a0_0=0
 rw [if_pos c2] at H
 have c2b0:=zbt c2
 have c2b1:=zqn c2
 clear c2
 by_cases c3:a0_1.toList=([]:List UInt8)
 rw [if_pos c3] at H
 have c3b0:=zbt c3
 have c3b1:=zqn c3
 clear c3
 rotate_left
 rw [if_neg c3] at H
 have c3b0:=zbn c3
 have c3b1:=zqt c3
 rotate_left
 rw [if_neg c2] at H
 have c2b0:=zbn c2
 have c2b1:=zqt c2
 rotate_left
 all_goals
  obtain rfl:=zi H
  go_enter Tryz.func74,Tryz.ntmps74
  go_wp2_with (((with_reducible refine gate_dst (N:=1) rfl ?_);(try (refine gate_guard (by rfl) ?_;dsimp only));refine zE (cs:=#[.int .i64 a0_0,.string a0_1,.slice A0_2 l0_2.length c0_2]) (t:=54) ?_;intro gb1 hg w4 hbox hb;have BK1:=zk hbox;have GW1:=zk (zs (w:=w) hg za8);have GE1:=GW1;replace HB:=yB HB hb;clear hb hbox hg;obtain ⟨hcz5_0,hcz5_1,hcz5_2,hfz5_0,hfz5_1,hfz5_2⟩:=blk3 BK1.out))
  go_ret
  exact ⟨by (rfl),za8⟩
def spec_l9Coeffs.l0:Nat→List Int→Int→Option (Bool)
 | 0,_,_=>none
 | k+1,x0,x3=>if x3 < (x0.length:Int) then (if 0≤x3 then ((spec_l1In.f (rd x0 x3) (-9) 9).bind fun t76002=>(if t76002=true then (spec_l9Coeffs.l0 k x0 (wrap64 (x3+1))) else (some false))) else (none)) else (some ((x0.length:Int) == 3))
def spec_l9Coeffs.f (k:Nat) (l0:List Int):Option (Bool):=spec_l9Coeffs.l0 k l0 0
theorem spec_l9Coeffs.calls (k:Nat) (A0:Option Addr) (c0:Nat) (l0:List Int) (r:Bool) (w:World) (hr0:Kd.C (Kd.int .i64) w A0 l0.length l0) (hc0:l0.length≤c0) (h:spec_l9Coeffs.f k l0=some r) :
   Calls Tryz.prog 76 #[.slice A0 l0.length c0] w fun e w'=>e = .returned (.bool r)∧Drawn0 w w':=by
 have HR0:=zk hr0
 have HC0:=zk hc0
 clear hr0 hc0
 have H:=h
 unfold spec_l9Coeffs.f at H
 clear h
 have H':=zk H
 clear H
 go_enter Tryz.func76,Tryz.ntmps76
 go_wp2
 try simp only [Act.put,zt,zv,zu]
 go_loopg [3] k (fun kq v3 w'=>∃ (x3_1:Int),v3 = .int .i64 x3_1∧Aside0 (spec_l9Coeffs.l0 kq l0 x3_1=some r)∧Aside0 (kq≤k)∧Drawn0 w w')
 case atStart=>exact ⟨(0),za33,H',⟨Nat.le_refl _⟩,za20⟩
 case round =>
  clear H'
  obtain ⟨x3_1,rfl,HA,HK1,⟨m1,rfl⟩⟩:=hrel
  cases gk with
  | zero=>exact absurd HA.out (by simp [spec_l9Coeffs.l0])
  | succ k1 =>
   have H:=HA.out
   clear HA
   simp only [spec_l9Coeffs.l0] at H
   by_cases c2:x3_1 < (l0.length:Int)
   rw [if_pos c2] at H
   have c2b0:=zdl c2
   clear c2
   by_cases c3:0≤x3_1
   rw [if_pos c3] at H
   have c3b0:=zdle c3
   clear c3
   obtain ⟨t2,A4,H⟩:=zO H
   try dsimp only at H
   by_cases c5:t2=true
   subst c5
   rw [if_pos rfl] at H
   try dsimp only at H
   have H':=zk H
   clear H
   have fin0_:=zk trivial
   rotate_left
   replace c5:=Bool.eq_false_iff.mpr c5
   subst c5
   rw [if_neg zff] at H
   try dsimp only at H
   obtain rfl:=zi H
   have fin1_:=zk trivial
   rotate_left
   · rw [if_neg c3] at H
     exact absurd H (by simp)
   · rw [if_neg c2] at H
     have c2b0:=zdnl c2
     clear c2
     obtain rfl:=zi H
     go_wp2
     go_ret
     exact ⟨za33,za20⟩
   all_goals
    have p76001:0≤(x3_1:Int):=of_decide_eq_true za25
    have q76001:x3_1 < (l0.length:Int):=of_decide_eq_true za25
    obtain ⟨ad76001,e76001,hx76001_0⟩:=Kd.at_int HR0.out x3_1 p76001 q76001
    cases e76001
    replace p76001:=eq_true p76001
    replace q76001:=eq_true q76001
    go_wp2_with (((with_reducible refine gate_callee (f:=77) rfl ?_);refine zg (some 14) Tryz.func77 #[.int .i64 (rd l0 x3_1),.int .i64 (-9),.int .i64 9] rfl za11 ?_;(with_reducible refine (spec_l1In.calls (rd l0 x3_1) (-9) 9 _ _ A4.out).mono ?_);rintro e w' ⟨rfl,⟨nd,rfl⟩⟩;refine ⟨_,rfl,?_⟩))
    first
    | (
      clear fin0_
      go_roundg k1
      case measure=>have:=HK1.out;omega
      case rel=>exact ⟨(wrap64 (x3_1+1)),za23,H',⟨za43⟩,za20⟩)
    | (
      clear fin1_
      go_ret
      exact ⟨za33,za20⟩)
mutual
def spec_IsValidConstraint.j0:Nat→Bool→Int→ByteArray→ByteArray→Int→ByteArray→List (S54)→List Int→Int→Option (Bool)
 | 0,_,_,_,_,_,_,_,_,_=>none
 | k+1,x3,x50002000,x50002001,x50002002,x50002003,x50002004,x50002005,x50002006,x50002007=>if x50002000=1 then (spec_IsValidConstraint.j1 k x3 x50002000 (x50002000 == 1) x50002000 x50002001 x50002002 x50002003 x50002004 x50002005 x50002006 x50002007) else (spec_IsValidConstraint.j1 k x3 x50002000 (x50002000 == 2) x50002000 x50002001 x50002002 x50002003 x50002004 x50002005 x50002006 x50002007)
def spec_IsValidConstraint.j1:Nat→Bool→Int→Bool→Int→ByteArray→ByteArray→Int→ByteArray→List (S54)→List Int→Int→Option (Bool)
 | 0,_,_,_,_,_,_,_,_,_,_,_=>none
 | k+1,x3,x14,x15,x50002000,x50002001,x50002002,x50002003,x50002004,x50002005,x50002006,x50002007=>if x15=true then ((spec_IsTerm.f k x50002001).bind fun t50002=>(if t50002=true then ((spec_IsTerm.f k x50002002).bind fun t50003=>(if t50003=true then ((spec_l9Zero.f x50002003 x50002004 x50002005).bind fun t50004=>(if t50004=true then (some x3) else (some false))) else (some false))) else (some false))) else (if x14=3 then (spec_IsValidConstraint.j2 k x3 x14 (x14 == 3) x50002000 x50002001 x50002002 x50002003 x50002004 x50002005 x50002006 x50002007) else (spec_IsValidConstraint.j2 k x3 x14 (x14 == 4) x50002000 x50002001 x50002002 x50002003 x50002004 x50002005 x50002006 x50002007))
def spec_IsValidConstraint.j2:Nat→Bool→Int→Bool→Int→ByteArray→ByteArray→Int→ByteArray→List (S54)→List Int→Int→Option (Bool)
 | 0,_,_,_,_,_,_,_,_,_,_,_=>none
 | k+1,x3,x14,x34,x50002000,x50002001,x50002002,x50002003,x50002004,x50002005,x50002006,x50002007=>if x34=true then ((spec_IsTerm.f k x50002001).bind fun t50005=>(if t50005=true then (if x50002002.toList=([]:List UInt8) then ((spec_IsValidRegex.f k x50002003 x50002004 x50002005).bind fun t50006=>(if t50006=true then (some x3) else (some false))) else (some false)) else (some false))) else (if x14=5 then (if x50002001.toList=([]:List UInt8) then (if x50002002.toList=([]:List UInt8) then ((spec_l9Zero.f x50002003 x50002004 x50002005).bind fun t50007=>(if t50007=true then ((spec_l9Coeffs.f k x50002006).bind fun t50008=>(if t50008=true then ((spec_l1In.f x50002007 (-99) 99).bind fun t50009=>(some t50009)) else (some false))) else (some false))) else (some false)) else (some false)) else (some false))
end
def spec_IsValidConstraint.f (k:Nat) (a0_0:Int) (a0_1:ByteArray) (a0_2:ByteArray) (a0_3:Int) (a0_4:ByteArray) (l0_5:List (S54)) (l0_6:List Int) (a0_7:Int):Option (Bool):=if (l0_6.length:Int)=0 then (spec_IsValidConstraint.j0 k (a0_7 == 0) a0_0 a0_1 a0_2 a0_3 a0_4 l0_5 l0_6 a0_7) else (spec_IsValidConstraint.j0 k false a0_0 a0_1 a0_2 a0_3 a0_4 l0_5 l0_6 a0_7)
theorem spec_IsValidConstraint.calls (k:Nat) (a0_0:Int) (a0_1:ByteArray) (a0_2:ByteArray) (a0_3:Int) (a0_4:ByteArray) (A0_5:Option Addr) (c0_5:Nat) (l0_5:List (S54)) (A0_6:Option Addr) (c0_6:Nat) (l0_6:List Int) (a0_7:Int) (r:Bool) (w:World) (hr0_5:Kd.C k54 w A0_5 l0_5.length l0_5) (hc0_5:l0_5.length≤c0_5) (hr0_6:Kd.C (Kd.int .i64) w A0_6 l0_6.length l0_6) (hc0_6:l0_6.length≤c0_6) (h:spec_IsValidConstraint.f k a0_0 a0_1 a0_2 a0_3 a0_4 l0_5 l0_6 a0_7=some r) :
   Calls Tryz.prog 50 #[.agg #[.int .i64 a0_0,.string a0_1,.string a0_2,.int .i64 a0_3,.string a0_4,.slice A0_5 l0_5.length c0_5,.slice A0_6 l0_6.length c0_6,.int .i64 a0_7]] w fun e w'=>e = .returned (.bool r)∧Below w.heap.size w w':=by
 have hu56:=Tryz.underlying56
 have hu54:=Tryz.underlying54
 have HR0_5:=zk hr0_5
 have HC0_5:=zk hc0_5
 clear hr0_5 hc0_5
 have HR0_6:=zk hr0_6
 have HC0_6:=zk hc0_6
 clear hr0_6 hc0_6
 have HB:=zk (Below.refl w.heap.size w)
 have H:=h
 unfold spec_IsValidConstraint.f at H
 clear h
 have HC2:=zk H
 clear H
 go_enter Tryz.func50,Tryz.ntmps50
 go_upto_region 1 with ((((with_reducible refine gate_dst (N:=1) rfl ?_);refine zE (cs:=#[.int .i64 a0_0,.string a0_1,.string a0_2,.int .i64 a0_3,.string a0_4,.slice A0_5 l0_5.length c0_5,.slice A0_6 l0_6.length c0_6,.int .i64 a0_7]) (t:=56) ?_;intro gb1 hg w3 hbox hb;have BK1:=zk hbox;have GW1:=zk (zs (w:=w) hg za8);have GE1:=GW1;replace HB:=yB HB hb;clear hb hbox hg)))
 (try simp only [Act.put,zt,zu,zv])
 go_cut [3] (fun v3 wc=>∃ (kq:Nat) (x3_1:Bool),v3 = .bool x3_1∧Aside0 (spec_IsValidConstraint.j0 kq x3_1 a0_0 a0_1 a0_2 a0_3 a0_4 l0_5 l0_6 a0_7=some r)∧Aside0 (kq≤k)∧Aside0 (wc.heap[gb1]? = some (.cells #[.int .i64 a0_0,.string a0_1,.string a0_2,.int .i64 a0_3,.string a0_4,(.slice A0_5 l0_5.length c0_5),(.slice A0_6 l0_6.length c0_6),.int .i64 a0_7] 56 (0,0)))∧Aside0 (Below w.heap.size w wc))
 case first =>
  have H:=HC2.out
  clear HC2
  by_cases c4:(l0_6.length:Int)=0
  · rw [if_pos c4] at H
    have c4b0:=zbt c4
    have c4b1:=zqn c4
    clear c4
    ((skip))
    have H':=zk H
    clear H
    obtain ⟨hcz5_0,hcz5_1,hcz5_2,hcz5_3,hcz5_4,hcz5_5,hcz5_6,hcz5_7,hfz5_0,hfz5_1,hfz5_2,hfz5_3,hfz5_4,hfz5_5,hfz5_6,hfz5_7⟩:=blk8 BK1.out
    go_wp2
    go_meet
    case rel=>exact ⟨_,((a0_7 == 0)),za33,H',⟨by (omega)⟩,⟨za3 BK1.out⟩,⟨za8⟩⟩
  · rw [if_neg c4] at H
    have c4b0:=zbn c4
    have c4b1:=zqt c4
    have c4b2:¬ (l0_6 = []):=fun h_=>c4 (by rw [h_];rfl)
    ((skip))
    have H':=zk H
    clear H
    obtain ⟨hcz6_0,hcz6_1,hcz6_2,hcz6_3,hcz6_4,hcz6_5,hcz6_6,hcz6_7,hfz6_0,hfz6_1,hfz6_2,hfz6_3,hfz6_4,hfz6_5,hfz6_6,hfz6_7⟩:=blk8 BK1.out
    go_wp2
    go_meet
    case rel=>exact ⟨_,(false),za33,H',⟨by (omega)⟩,⟨za3 BK1.out⟩,⟨za8⟩⟩
 case rest =>
  clear HC2
  obtain ⟨kq,x3_1,rfl,HA,HJ1,BK1,HB⟩:=hcut
  cases kq with
  | zero=>exact absurd HA.out (by simp [spec_IsValidConstraint.j0])
  | succ kj1 =>
   have H:=HA.out
   clear HA
   simp only [spec_IsValidConstraint.j0] at H
   have HC7:=zk H
   clear H
   obtain ⟨hcz8_0,hcz8_1,hcz8_2,hcz8_3,hcz8_4,hcz8_5,hcz8_6,hcz8_7,hfz8_0,hfz8_1,hfz8_2,hfz8_3,hfz8_4,hfz8_5,hfz8_6,hfz8_7⟩:=blk8 BK1.out
   go_upto_if 15 with (fail)
   go_cut [15] (fun v15 wc=>∃ (kq:Nat) (x15_6:Bool),v15 = .bool x15_6∧Aside0 (spec_IsValidConstraint.j1 kq x3_1 a0_0 x15_6 a0_0 a0_1 a0_2 a0_3 a0_4 l0_5 l0_6 a0_7=some r)∧Aside0 (kq≤kj1)∧Aside0 (wc.heap[gb1]? = some (.cells #[.int .i64 a0_0,.string a0_1,.string a0_2,.int .i64 a0_3,.string a0_4,(.slice A0_5 l0_5.length c0_5),(.slice A0_6 l0_6.length c0_6),.int .i64 a0_7] 56 (0,0)))∧Aside0 (Below w.heap.size w wc))
   case first =>
    have H:=HC7.out
    clear HC7
    by_cases c9:a0_0=1
    · rw [if_pos c9] at H
      have c9b0:=zbt c9
      have c9b1:=zqn c9
      clear c9
      ((rw [c9b0]))
      have H':=zk H
      clear H
      go_wp2
      go_meet
      case rel=>exact ⟨_,((a0_0 == 1)),za33,H',⟨by have:=HJ1.out;(omega)⟩,⟨za3 BK1.out⟩,⟨za8⟩⟩
    · rw [if_neg c9] at H
      have c9b0:=zbn c9
      have c9b1:=zqt c9
      ((rw [c9b0]))
      have H':=zk H
      clear H
      go_wp2
      go_meet
      case rel=>exact ⟨_,((a0_0 == 2)),za33,H',⟨by have:=HJ1.out;(omega)⟩,⟨za3 BK1.out⟩,⟨za8⟩⟩
   case rest =>
    clear HC7
    try clear hcz8_0
    try clear hcz8_1
    try clear hcz8_2
    try clear hcz8_3
    try clear hcz8_4
    try clear hcz8_5
    try clear hcz8_6
    try clear hcz8_7
    try clear hfz8_0
    try clear hfz8_1
    try clear hfz8_2
    try clear hfz8_3
    try clear hfz8_4
    try clear hfz8_5
    try clear hfz8_6
    try clear hfz8_7
    obtain ⟨kq,x15_6,rfl,HA,HJ6,BK1,HB⟩:=hcut
    cases kq with
    | zero=>exact absurd HA.out (by simp [spec_IsValidConstraint.j1])
    | succ kj6 =>
     have H:=HA.out
     clear HA
     simp only [spec_IsValidConstraint.j1] at H
     by_cases c10:x15_6=true
     subst c10
     rw [if_pos rfl] at H
     try dsimp only at H
     obtain ⟨t2,A11,H⟩:=zO H
     try dsimp only at H
     by_cases c12:t2=true
     subst c12
     rw [if_pos rfl] at H
     try dsimp only at H
     obtain ⟨t3,A13,H⟩:=zO H
     try dsimp only at H
     by_cases c14:t3=true
     subst c14
     rw [if_pos rfl] at H
     try dsimp only at H
     obtain ⟨t4,A15,H⟩:=zO H
     try dsimp only at H
     by_cases c16:t4=true
     subst c16
     have H1:(some x3_1)=some r:=by rw [if_pos rfl] at H;exact H
     rotate_left
     replace c16:=Bool.eq_false_iff.mpr c16
     subst c16
     have H1:(some false)=some r:=by rw [if_neg zff] at H;exact H
     rotate_left
     replace c14:=Bool.eq_false_iff.mpr c14
     subst c14
     have H1:(some false)=some r:=by rw [if_neg zff] at H;exact H
     rotate_left
     replace c12:=Bool.eq_false_iff.mpr c12
     subst c12
     have H1:(some false)=some r:=by rw [if_neg zff] at H;exact H
     rotate_left
     · replace c10:=Bool.eq_false_iff.mpr c10
       subst c10
       rw [if_neg zff] at H
       try dsimp only at H
       have HC23:=zk H
       clear H
       go_upto_if 34 with (fail)
       go_cut [34] (fun v34 wc=>∃ (kq:Nat) (x34_22:Bool),v34 = .bool x34_22∧Aside0 (spec_IsValidConstraint.j2 kq x3_1 a0_0 x34_22 a0_0 a0_1 a0_2 a0_3 a0_4 l0_5 l0_6 a0_7=some r)∧Aside0 (kq≤kj6)∧Aside0 (wc.heap[gb1]? = some (.cells #[.int .i64 a0_0,.string a0_1,.string a0_2,.int .i64 a0_3,.string a0_4,(.slice A0_5 l0_5.length c0_5),(.slice A0_6 l0_6.length c0_6),.int .i64 a0_7] 56 (0,0)))∧Aside0 (Below w.heap.size w wc))
       case first =>
        have H:=HC23.out
        clear HC23
        by_cases c24:a0_0=3
        · rw [if_pos c24] at H
          have c24b0:=zbt c24
          have c24b1:=zqn c24
          clear c24
          ((rw [c24b0]))
          have H':=zk H
          clear H
          go_wp2
          go_meet
          case rel=>exact ⟨_,((a0_0 == 3)),za33,H',⟨by have:=HJ1.out;have:=HJ6.out;(omega)⟩,⟨za3 BK1.out⟩,⟨za8⟩⟩
        · rw [if_neg c24] at H
          have c24b0:=zbn c24
          have c24b1:=zqt c24
          ((rw [c24b0]))
          have H':=zk H
          clear H
          go_wp2
          go_meet
          case rel=>exact ⟨_,((a0_0 == 4)),za33,H',⟨by have:=HJ1.out;have:=HJ6.out;(omega)⟩,⟨za3 BK1.out⟩,⟨za8⟩⟩
       case rest =>
        clear HC23
        try clear c10
        try clear hcz8_0
        try clear hcz8_1
        try clear hcz8_2
        try clear hcz8_3
        try clear hcz8_4
        try clear hcz8_5
        try clear hcz8_6
        try clear hcz8_7
        try clear hfz8_0
        try clear hfz8_1
        try clear hfz8_2
        try clear hfz8_3
        try clear hfz8_4
        try clear hfz8_5
        try clear hfz8_6
        try clear hfz8_7
        obtain ⟨kq,x34_22,rfl,HA,HJ22,BK1,HB⟩:=hcut
        cases kq with
        | zero=>exact absurd HA.out (by simp [spec_IsValidConstraint.j2])
        | succ kj22 =>
         have H:=HA.out
         clear HA
         simp only [spec_IsValidConstraint.j2] at H
         by_cases c25:x34_22=true
         subst c25
         rw [if_pos rfl] at H
         try dsimp only at H
         obtain ⟨t5,A26,H⟩:=zO H
         try dsimp only at H
         by_cases c27:t5=true
         subst c27
         rw [if_pos rfl] at H
         try dsimp only at H
         by_cases c28:a0_2.toList=([]:List UInt8)
         rw [if_pos c28] at H
         have c28b0:=zbt c28
         have c28b1:=zqn c28
         clear c28
         obtain ⟨t6,A29,H⟩:=zO H
         try dsimp only at H
         by_cases c30:t6=true
         subst c30
         rw [if_pos rfl] at H
         try dsimp only at H
         rotate_left
         replace c30:=Bool.eq_false_iff.mpr c30
         subst c30
         rw [if_neg zff] at H
         try dsimp only at H
         rotate_left
         rw [if_neg c28] at H
         have c28b0:=zbn c28
         have c28b1:=zqt c28
         rotate_left
         replace c27:=Bool.eq_false_iff.mpr c27
         subst c27
         rw [if_neg zff] at H
         try dsimp only at H
         rotate_left
         replace c25:=Bool.eq_false_iff.mpr c25
         subst c25
         rw [if_neg zff] at H
         try dsimp only at H
         by_cases c37:a0_0=5
         rw [if_pos c37] at H
         have c37b0:=zbt c37
         have c37b1:=zqn c37
         clear c37
         by_cases c38:a0_1.toList=([]:List UInt8)
         rw [if_pos c38] at H
         have c38b0:=zbt c38
         have c38b1:=zqn c38
         clear c38
         by_cases c39:a0_2.toList=([]:List UInt8)
         rw [if_pos c39] at H
         have c39b0:=zbt c39
         have c39b1:=zqn c39
         clear c39
         obtain ⟨t7,A40,H⟩:=zO H
         try dsimp only at H
         by_cases c41:t7=true
         subst c41
         rw [if_pos rfl] at H
         try dsimp only at H
         obtain ⟨t8,A42,H⟩:=zO H
         try dsimp only at H
         by_cases c43:t8=true
         subst c43
         rw [if_pos rfl] at H
         try dsimp only at H
         obtain ⟨t9,A44,H⟩:=zO H
         try dsimp only at H
         rotate_left
         replace c43:=Bool.eq_false_iff.mpr c43
         subst c43
         rw [if_neg zff] at H
         try dsimp only at H
         rotate_left
         replace c41:=Bool.eq_false_iff.mpr c41
         subst c41
         rw [if_neg zff] at H
         try dsimp only at H
         rotate_left
         rw [if_neg c39] at H
         have c39b0:=zbn c39
         have c39b1:=zqt c39
         rotate_left
         rw [if_neg c38] at H
         have c38b0:=zbn c38
         have c38b1:=zqt c38
         rotate_left
         · rw [if_neg c37] at H
           have c37b0:=zbn c37
           have c37b1:=zqt c37
           obtain rfl:=zi H
           go_wp2
           go_ret
           exact ⟨by (rfl),za8⟩
         all_goals
          obtain rfl:=zi H
          obtain ⟨hcz45_0,hcz45_1,hcz45_2,hcz45_3,hcz45_4,hcz45_5,hcz45_6,hcz45_7,hfz45_0,hfz45_1,hfz45_2,hfz45_3,hfz45_4,hfz45_5,hfz45_6,hfz45_7⟩:=blk8 BK1.out
          go_wp2_with (first|(go_at_call 74;(with_reducible refine (spec_l9Zero.calls a0_3 a0_4 _ _ l0_5 _ _ ?side1 ?side2 A40.out).mono ?_);(case side1=>repeat ((exact (Kd.C_below HR0_5.out HB.out))));(case side2=>exact HC0_5.out);rintro e w46 ⟨rfl,hb⟩;replace BK1:=yb BK1 hb;replace HB:=yB HB hb;(try clear hb);obtain ⟨hcz47_0,hcz47_1,hcz47_2,hcz47_3,hcz47_4,hcz47_5,hcz47_6,hcz47_7,hfz47_0,hfz47_1,hfz47_2,hfz47_3,hfz47_4,hfz47_5,hfz47_6,hfz47_7⟩:=blk8 BK1.out)|(go_at_call 76;(with_reducible refine (spec_l9Coeffs.calls kj22 _ _ l0_6 _ _ ?side1 ?side2 A42.out).mono ?_);(case side1=>repeat ((exact (Kd.C_below HR0_6.out HB.out))));(case side2=>exact HC0_6.out);rintro e w' ⟨rfl,⟨nd,rfl⟩⟩)|(go_at_call 77;(with_reducible refine (spec_l1In.calls a0_7 (-99) 99 t9 _ A44.out).mono ?_);rintro e w' ⟨rfl,⟨nd,rfl⟩⟩)|((with_reducible refine gate_callee (f:=73) rfl ?_);refine zg (some 39) Tryz.func73 #[.string a0_1] rfl za11 ?_;(with_reducible refine (spec_IsTerm.calls kj22 a0_1 _ _ A26.out).mono ?_);rintro e w' ⟨rfl,⟨nd,rfl⟩⟩;refine ⟨_,rfl,?_⟩)|(go_at_call 75;(with_reducible refine (spec_IsValidRegex.calls kj22 a0_3 a0_4 _ _ l0_5 _ _ ?side1 ?side2 A29.out).mono ?_);(case side1=>repeat ((exact (Kd.C_below HR0_5.out za8))));(case side2=>exact HC0_5.out);rintro e w32 ⟨rfl,hb⟩;replace BK1:=yb BK1 hb;replace HB:=yB HB hb;(try clear hb)))
          go_ret
          exact ⟨by (rfl),za8⟩
     all_goals
      clear H
      have H:=H1
      clear H1
      obtain rfl:=zi H
      obtain ⟨hcz17_0,hcz17_1,hcz17_2,hcz17_3,hcz17_4,hcz17_5,hcz17_6,hcz17_7,hfz17_0,hfz17_1,hfz17_2,hfz17_3,hfz17_4,hfz17_5,hfz17_6,hfz17_7⟩:=blk8 BK1.out
      go_wp2_with (first|((with_reducible refine gate_callee (f:=73) rfl ?_);refine zg (some 20) Tryz.func73 #[.string a0_1] rfl za11 ?_;(with_reducible refine (spec_IsTerm.calls kj6 a0_1 _ _ A11.out).mono ?_);rintro e w' ⟨rfl,⟨nd,rfl⟩⟩;refine ⟨_,rfl,?_⟩)|(go_at_call 73;(with_reducible refine (spec_IsTerm.calls kj6 a0_2 _ _ A13.out).mono ?_);rintro e w' ⟨rfl,⟨nd,rfl⟩⟩)|(go_at_call 74;(with_reducible refine (spec_l9Zero.calls a0_3 a0_4 _ _ l0_5 _ _ ?side1 ?side2 A15.out).mono ?_);(case side1=>repeat ((exact (Kd.C_below HR0_5.out za8))));(case side2=>exact HC0_5.out);rintro e w18 ⟨rfl,hb⟩;replace BK1:=yb BK1 hb;replace HB:=yB HB hb;(try clear hb)))
      go_ret
      exact ⟨by (rfl),za8⟩
def spec_VarsOfConstraint.l0:Nat→ByteArray→Int→Int→ByteArray→ByteArray→Int→ByteArray→List (S54)→List Int→Int→Option (ByteArray)
 | 0,_,_,_,_,_,_,_,_,_,_=>none
 | k+1,x3,x4,x53002000,x53002001,x53002002,x53002003,x53002004,x53002005,x53002006,x53002007=>if x4 < (x53002006.length:Int) then (if 0≤x4 then (if (rd x53002006 x4)=0 then (spec_VarsOfConstraint.l0 k x3 (wrap64 (x4+1)) x53002000 x53002001 x53002002 x53002003 x53002004 x53002005 x53002006 x53002007) else (if x4≤(wrap64 (x4+1)) then (if (wrap64 (x4+1))≤3 then (if x3.size+((⟨#[88,89,90]⟩:ByteArray).extract (x4:Int).toNat ((wrap64 (x4+1)):Int).toNat).size≤9223372036854775807 then (spec_VarsOfConstraint.l0 k (x3 ++ ((⟨#[88,89,90]⟩:ByteArray).extract (x4:Int).toNat ((wrap64 (x4+1)):Int).toNat)) (wrap64 (x4+1)) x53002000 x53002001 x53002002 x53002003 x53002004 x53002005 x53002006 x53002007) else (none)) else (none)) else (none))) else (none)) else ((spec_VarsOf.f k x3).bind fun t53004=>(some t53004))
def spec_VarsOfConstraint.f (k:Nat) (a0_0:Int) (a0_1:ByteArray) (a0_2:ByteArray) (a0_3:Int) (a0_4:ByteArray) (l0_5:List (S54)) (l0_6:List Int) (a0_7:Int):Option (ByteArray):=(spec_IsValidConstraint.f k a0_0 a0_1 a0_2 a0_3 a0_4 l0_5 l0_6 a0_7).bind fun t53002=>(if t53002=true then (if a0_1.size+a0_2.size≤9223372036854775807 then (spec_VarsOfConstraint.l0 k (a0_1 ++ a0_2) 0 a0_0 a0_1 a0_2 a0_3 a0_4 l0_5 l0_6 a0_7) else (none)) else (some (⟨#[]⟩:ByteArray)))
theorem spec_VarsOfConstraint.calls (k:Nat) (a0_0:Int) (a0_1:ByteArray) (a0_2:ByteArray) (a0_3:Int) (a0_4:ByteArray) (A0_5:Option Addr) (c0_5:Nat) (l0_5:List (S54)) (A0_6:Option Addr) (c0_6:Nat) (l0_6:List Int) (a0_7:Int) (r:ByteArray) (w:World) (hr0_5:Kd.C k54 w A0_5 l0_5.length l0_5) (hc0_5:l0_5.length≤c0_5) (hr0_6:Kd.C (Kd.int .i64) w A0_6 l0_6.length l0_6) (hc0_6:l0_6.length≤c0_6) (h:spec_VarsOfConstraint.f k a0_0 a0_1 a0_2 a0_3 a0_4 l0_5 l0_6 a0_7=some r) :
  Calls Tryz.prog 53 #[.agg #[.int .i64 a0_0,.string a0_1,.string a0_2,.int .i64 a0_3,.string a0_4,.slice A0_5 l0_5.length c0_5,.slice A0_6 l0_6.length c0_6,.int .i64 a0_7]] w fun e w'=>e = .returned (.string r)∧Below w.heap.size w w':=by
 have hu56:=Tryz.underlying56
 have HR0_5:=zk hr0_5
 have HC0_5:=zk hc0_5
 clear hr0_5 hc0_5
 have HR0_6:=zk hr0_6
 have HC0_6:=zk hc0_6
 clear hr0_6 hc0_6
 have HB:=zk (Below.refl w.heap.size w)
 have H:=h
 unfold spec_VarsOfConstraint.f at H
 clear h
 go_enter Tryz.func53,Tryz.ntmps53
 go_upto_region 1 with ((((with_reducible refine gate_dst (N:=1) rfl ?_);refine zE (cs:=#[.int .i64 a0_0,.string a0_1,.string a0_2,.int .i64 a0_3,.string a0_4,.slice A0_5 l0_5.length c0_5,.slice A0_6 l0_6.length c0_6,.int .i64 a0_7]) (t:=56) ?_;intro gb1 hg w5 hbox hb;have BK1:=zk hbox;have GW1:=zk (zs (w:=w) hg za8);have GE1:=GW1;replace HB:=yB HB hb;clear hb hbox hg;obtain ⟨hcz6_0,hcz6_1,hcz6_2,hcz6_3,hcz6_4,hcz6_5,hcz6_6,hcz6_7,hfz6_0,hfz6_1,hfz6_2,hfz6_3,hfz6_4,hfz6_5,hfz6_6,hfz6_7⟩:=blk8 BK1.out)))
 obtain ⟨t2,A2,H⟩:=zO H
 try dsimp only at H
 by_cases c3:t2=true
 subst c3
 rw [if_pos rfl] at H
 try dsimp only at H
 by_cases c4:a0_1.size+a0_2.size≤9223372036854775807
 ·rw [if_pos c4] at H
  have c4z:=c4
  try simp at c4z
  try replace c4z:=eq_false (Nat.not_lt.2 c4z)
  have c4b0:=eq_true c4
  have c4b1:=zdle c4
  try have c4b2:(9223372036854775807 < a0_1.size+a0_2.size)=False:=eq_false (Nat.not_lt.2 c4)
  have H':=zk H
  clear H
  go_wp2_with ((((with_reducible refine gate_callee (f:=50) rfl ?_);refine zg (some 6) Tryz.func50 #[.agg #[.int .i64 a0_0,.string a0_1,.string a0_2,.int .i64 a0_3,.string a0_4,.slice A0_5 l0_5.length c0_5,.slice A0_6 l0_6.length c0_6,.int .i64 a0_7]] rfl za11 ?_;(with_reducible refine (spec_IsValidConstraint.calls k a0_0 a0_1 a0_2 a0_3 a0_4 _ _ l0_5 _ _ l0_6 a0_7 _ _ ?side1 ?side2 ?side3 ?side4 A2.out).mono ?_);(case side1=>repeat ((exact (Kd.C_below HR0_5.out HB.out))));(case side2=>exact HC0_5.out);(case side3=>repeat ((exact (Kd.C_below HR0_6.out HB.out))));(case side4=>exact HC0_6.out);rintro e w7 ⟨rfl,hb⟩;refine ⟨_,rfl,?_⟩;replace BK1:=yb BK1 hb;replace HB:=yB HB hb;(try clear hb);obtain ⟨hcz8_0,hcz8_1,hcz8_2,hcz8_3,hcz8_4,hcz8_5,hcz8_6,hcz8_7,hfz8_0,hfz8_1,hfz8_2,hfz8_3,hfz8_4,hfz8_5,hfz8_6,hfz8_7⟩:=blk8 BK1.out)))
  try simp only [Act.put,zt,zv,zu]
  go_loopg [3,4] k (fun kq v3 v4 w'=>∃ (x3_1:ByteArray) (x4_1:Int),v3 = .string x3_1∧v4 = .int .i64 x4_1∧Aside0 (spec_VarsOfConstraint.l0 kq x3_1 x4_1 a0_0 a0_1 a0_2 a0_3 a0_4 l0_5 l0_6 a0_7=some r)∧Aside0 (kq≤k)∧Aside0 (w'.heap[gb1]? = some (.cells #[.int .i64 a0_0,.string a0_1,.string a0_2,.int .i64 a0_3,.string a0_4,(.slice A0_5 l0_5.length c0_5),(.slice A0_6 l0_6.length c0_6),.int .i64 a0_7] 56 (0,0)))∧Aside0 (Below w.heap.size w w'))
  case atStart=>exact ⟨(a0_1 ++ a0_2),(0),za33,za33,H',⟨Nat.le_refl _⟩,⟨za3 BK1.out⟩,⟨za8⟩⟩
  case round =>
   clear H'
   try clear c4
   try clear c4b0
   try clear c4b1
   try clear c4b2
   try clear hcz6_0
   try clear hcz6_1
   try clear hcz6_2
   try clear hcz6_3
   try clear hcz6_4
   try clear hcz6_5
   try clear hcz6_6
   try clear hcz6_7
   try clear hcz8_0
   try clear hcz8_1
   try clear hcz8_2
   try clear hcz8_3
   try clear hcz8_4
   try clear hcz8_5
   try clear hcz8_6
   try clear hcz8_7
   try clear hfz6_0
   try clear hfz6_1
   try clear hfz6_2
   try clear hfz6_3
   try clear hfz6_4
   try clear hfz6_5
   try clear hfz6_6
   try clear hfz6_7
   try clear hfz8_0
   try clear hfz8_1
   try clear hfz8_2
   try clear hfz8_3
   try clear hfz8_4
   try clear hfz8_5
   try clear hfz8_6
   try clear hfz8_7
   obtain ⟨x3_1,x4_1,rfl,rfl,HA,HK1,BK1,HB⟩:=hrel
   cases gk with
   | zero=>exact absurd HA.out (by simp [spec_VarsOfConstraint.l0])
   | succ k1 =>
    have H:=HA.out
    clear HA
    simp only [spec_VarsOfConstraint.l0] at H
    by_cases c9:x4_1 < (l0_6.length:Int)
    rw [if_pos c9] at H
    have c9b0:=zdl c9
    clear c9
    by_cases c10:0≤x4_1
    rw [if_pos c10] at H
    have c10b0:=zdle c10
    clear c10
    by_cases c11:(rd l0_6 x4_1)=0
    rw [if_pos c11] at H
    have c11b0:=zbt c11
    have c11b1:=zqn c11
    clear c11
    have fin0_:=zk trivial
    rotate_left
    rw [if_neg c11] at H
    have c11b0:=zbn c11
    have c11b1:=zqt c11
    have c13b0:=eq_true (of_decide_eq_true za25:0≤x4_1)
    by_cases c14:x4_1≤(wrap64 (x4_1+1))
    rw [if_pos c14] at H
    have c14b0:=eq_true c14
    have c14b1:=zdle c14
    by_cases c15:(wrap64 (x4_1+1))≤3
    rw [if_pos c15] at H
    have c15b0:=eq_true c15
    have c15b1:=zdle c15
    by_cases c16:x3_1.size+((⟨#[88,89,90]⟩:ByteArray).extract (x4_1:Int).toNat ((wrap64 (x4_1+1)):Int).toNat).size≤9223372036854775807
    rw [if_pos c16] at H
    have c16z:=c16
    try simp at c16z
    try replace c16z:=eq_false (Nat.not_lt.2 c16z)
    have c16b0:=eq_true c16
    have c16b1:=zdle c16
    try have c16b2:(9223372036854775807 < x3_1.size+((⟨#[88,89,90]⟩:ByteArray).extract (x4_1:Int).toNat ((wrap64 (x4_1+1)):Int).toNat).size)=False:=eq_false (Nat.not_lt.2 c16)
    have fin1_:=zk trivial
    rotate_left
    · rw [if_neg c16] at H
      exact absurd H (by simp)
    · rw [if_neg c15] at H
      exact absurd H (by simp)
    · rw [if_neg c14] at H
      exact absurd H (by simp)
    · rw [if_neg c10] at H
      exact absurd H (by simp)
    · rw [if_neg c9] at H
      have c9b0:=zdnl c9
      clear c9
      obtain ⟨t4,A18,H⟩:=zO H
      try dsimp only at H
      obtain rfl:=zi H
      obtain ⟨hcz19_0,hcz19_1,hcz19_2,hcz19_3,hcz19_4,hcz19_5,hcz19_6,hcz19_7,hfz19_0,hfz19_1,hfz19_2,hfz19_3,hfz19_4,hfz19_5,hfz19_6,hfz19_7⟩:=blk8 BK1.out
      go_wp2_with ((((with_reducible refine gate_callee (f:=54) rfl ?_);refine zg (some 33) Tryz.func54 #[.string x3_1] rfl za11 ?_;(with_reducible refine (spec_VarsOf.calls k1 x3_1 t4 _ A18.out).mono ?_);rintro e w' ⟨rfl,⟨nd,rfl⟩⟩;refine ⟨_,rfl,?_⟩)))
      go_ret
      exact ⟨by (rfl),za8⟩
    all_goals
     have H':=zk H
     clear H
     obtain ⟨hcz12_0,hcz12_1,hcz12_2,hcz12_3,hcz12_4,hcz12_5,hcz12_6,hcz12_7,hfz12_0,hfz12_1,hfz12_2,hfz12_3,hfz12_4,hfz12_5,hfz12_6,hfz12_7⟩:=blk8 BK1.out
     have p53003:0≤(x4_1:Int):=of_decide_eq_true za25
     have q53003:x4_1 < (l0_6.length:Int):=of_decide_eq_true za25
     obtain ⟨ad53003,e53003,hx53003_0⟩:=Kd.at_int HR0_6.out x4_1 p53003 q53003
     cases e53003
     replace hx53003_0:=zx HB.out hx53003_0
     replace p53003:=eq_true p53003
     replace q53003:=eq_true q53003
     go_wp2
     first
     | (
       clear fin0_
       go_roundg k1
       case measure=>have:=HK1.out;omega
       case rel=>exact ⟨(x3_1),(wrap64 (x4_1+1)),za23,za23,H',⟨za43⟩,⟨za0 BK1.out⟩,⟨za9⟩⟩)
     | (
       clear fin1_
       go_roundg k1
       case measure=>have:=HK1.out;omega
       case rel=>exact ⟨(x3_1 ++ ((⟨#[88,89,90]⟩:ByteArray).extract (x4_1:Int).toNat ((wrap64 (x4_1+1)):Int).toNat)),(wrap64 (x4_1+1)),za33,za33,H',⟨za43⟩,⟨za3 BK1.out⟩,⟨za8⟩⟩)
 ·rw [if_neg c4] at H
  exact absurd H (by simp)
 ·replace c3:=Bool.eq_false_iff.mpr c3
  subst c3
  rw [if_neg zff] at H
  try dsimp only at H
  obtain rfl:=zi H
  go_wp2_with ((((with_reducible refine gate_callee (f:=50) rfl ?_);refine zg (some 6) Tryz.func50 #[.agg #[.int .i64 a0_0,.string a0_1,.string a0_2,.int .i64 a0_3,.string a0_4,.slice A0_5 l0_5.length c0_5,.slice A0_6 l0_6.length c0_6,.int .i64 a0_7]] rfl za11 ?_;(with_reducible refine (spec_IsValidConstraint.calls k a0_0 a0_1 a0_2 a0_3 a0_4 _ _ l0_5 _ _ l0_6 a0_7 _ _ ?side1 ?side2 ?side3 ?side4 A2.out).mono ?_);(case side1=>repeat ((exact (Kd.C_below HR0_5.out HB.out))));(case side2=>exact HC0_5.out);(case side3=>repeat ((exact (Kd.C_below HR0_6.out HB.out))));(case side4=>exact HC0_6.out);rintro e w22 ⟨rfl,hb⟩;refine ⟨_,rfl,?_⟩;replace BK1:=yb BK1 hb;replace HB:=yB HB hb;(try clear hb))))
  go_ret
  exact ⟨by (rfl),za8⟩
def spec_l9Sum.f (l0:List Int) (a1_0:ByteArray) (a1_1:ByteArray) (a1_2:ByteArray):Option (Int):=if 0 < (l0.length:Int) then (if 1 < (l0.length:Int) then (if 2 < (l0.length:Int) then (some (wrap64 ((wrap64 ((wrap64 ((rd l0 0) * (a1_0.size:Int)))+(wrap64 ((rd l0 1) * (a1_1.size:Int)))))+(wrap64 ((rd l0 2) * (a1_2.size:Int)))))) else (none)) else (none)) else (none)
theorem spec_l9Sum.calls (A0:Option Addr) (c0:Nat) (l0:List Int) (a1_0:ByteArray) (a1_1:ByteArray) (a1_2:ByteArray) (r:Int) (w:World) (hr0:Kd.C (Kd.int .i64) w A0 l0.length l0) (hc0:l0.length≤c0) (h:spec_l9Sum.f l0 a1_0 a1_1 a1_2=some r) :
  Calls Tryz.prog 92 #[.slice A0 l0.length c0,.agg #[.string a1_0,.string a1_1,.string a1_2]] w fun e w'=>e = .returned (.int .i64 r)∧Below w.heap.size w w':=by
 have hu32:=Tryz.underlying32
 have HR0:=zk hr0
 have HC0:=zk hc0
 clear hr0 hc0
 have HB:=zk (Below.refl w.heap.size w)
 have H:=h
 unfold spec_l9Sum.f at H
 clear h
 by_cases c3:0 < (l0.length:Int)
 rw [if_pos c3] at H
 have c3b0:=zdl c3
 have c3b1:decide (0 < l0.length)=true:=decide_eq_true (by omega)
 clear c3
 by_cases c4:1 < (l0.length:Int)
 rw [if_pos c4] at H
 have c4b0:=zdl c4
 have c4b1:decide (1 < l0.length)=true:=decide_eq_true (by omega)
 clear c4
 by_cases c5:2 < (l0.length:Int)
 ·rw [if_pos c5] at H
  have c5b0:=zdl c5
  have c5b1:decide (2 < l0.length)=true:=decide_eq_true (by omega)
  clear c5
  obtain rfl:=zi H
  go_enter Tryz.func92,Tryz.ntmps92
  go_wp2_with ((((with_reducible refine gate_dst (N:=3) rfl ?_);refine zE (cs:=#[.string a1_0,.string a1_1,.string a1_2]) (t:=32) ?_;intro gb1 hg w6 hbox hb;have BK1:=zk hbox;have GW1:=zk (zs (w:=w) hg za8);have GE1:=GW1;replace HB:=yB HB hb;clear hb hbox hg;have p92002:0≤(0:Int):=(by omega);have q92002:0 < (l0.length:Int):=of_decide_eq_true za25;obtain ⟨ad92002,e92002,hx92002_0⟩:=Kd.at_int HR0.out 0 p92002 q92002;cases e92002;have qi92002:(0 < l0.length)=True:=eq_true (by omega);(try rw [show ((0:Int)).toNat=0 from rfl] at hx92002_0);(try rw [Addr.add_zero'] at hx92002_0);replace hx92002_0:=zx HB.out hx92002_0;replace p92002:=eq_true p92002;replace q92002:=eq_true q92002;obtain ⟨hcz7_0,hcz7_1,hcz7_2,hfz7_0,hfz7_1,hfz7_2⟩:=blk3 BK1.out;have p92003:0≤(1:Int):=(by omega);have q92003:1 < (l0.length:Int):=of_decide_eq_true za25;obtain ⟨ad92003,e92003,hx92003_0⟩:=Kd.at_int HR0.out 1 p92003 q92003;obtain rfl:ad92002=ad92003:=(by injection e92003);(try simp only [show (1:Int).toNat=1 from rfl,Nat.reduceMul,Nat.reduceEqDiff,Go.Addr.add,↓reduceIte] at hx92003_0);have qi92003:(1 < l0.length)=True:=eq_true (by omega);(try rw [show ((1:Int)).toNat=1 from rfl] at hx92003_0);replace hx92003_0:=zx HB.out hx92003_0;replace p92003:=eq_true p92003;replace q92003:=eq_true q92003;have p92004:0≤(2:Int):=(by omega);have q92004:2 < (l0.length:Int):=of_decide_eq_true za25;obtain ⟨ad92004,e92004,hx92004_0⟩:=Kd.at_int HR0.out 2 p92004 q92004;obtain rfl:ad92002=ad92004:=(by injection e92004);(try simp only [show (2:Int).toNat=2 from rfl,Nat.reduceMul,Nat.reduceEqDiff,Go.Addr.add,↓reduceIte] at hx92004_0);have qi92004:(2 < l0.length)=True:=eq_true (by omega);(try rw [show ((2:Int)).toNat=2 from rfl] at hx92004_0);replace hx92004_0:=zx HB.out hx92004_0;replace p92004:=eq_true p92004;replace q92004:=eq_true q92004)))
  repeat (go_quiet ((((with_reducible refine gate_dst (N:=3) rfl ?_);refine zE (cs:=#[.string a1_0,.string a1_1,.string a1_2]) (t:=32) ?_;intro gb1 hg w6 hbox hb;have BK1:=zk hbox;have GW1:=zk (zs (w:=w) hg za8);have GE1:=GW1;replace HB:=yB HB hb;clear hb hbox hg;have p92002:0≤(0:Int):=(by omega);have q92002:0 < (l0.length:Int):=of_decide_eq_true za25;obtain ⟨ad92002,e92002,hx92002_0⟩:=Kd.at_int HR0.out 0 p92002 q92002;cases e92002;have qi92002:(0 < l0.length)=True:=eq_true (by omega);(try rw [show ((0:Int)).toNat=0 from rfl] at hx92002_0);(try rw [Addr.add_zero'] at hx92002_0);replace hx92002_0:=zx HB.out hx92002_0;replace p92002:=eq_true p92002;replace q92002:=eq_true q92002;obtain ⟨hcz7_0,hcz7_1,hcz7_2,hfz7_0,hfz7_1,hfz7_2⟩:=blk3 BK1.out;have p92003:0≤(1:Int):=(by omega);have q92003:1 < (l0.length:Int):=of_decide_eq_true za25;obtain ⟨ad92003,e92003,hx92003_0⟩:=Kd.at_int HR0.out 1 p92003 q92003;obtain rfl:ad92002=ad92003:=(by injection e92003);(try simp only [show (1:Int).toNat=1 from rfl,Nat.reduceMul,Nat.reduceEqDiff,Go.Addr.add,↓reduceIte] at hx92003_0);have qi92003:(1 < l0.length)=True:=eq_true (by omega);(try rw [show ((1:Int)).toNat=1 from rfl] at hx92003_0);replace hx92003_0:=zx HB.out hx92003_0;replace p92003:=eq_true p92003;replace q92003:=eq_true q92003;have p92004:0≤(2:Int):=(by omega);have q92004:2 < (l0.length:Int):=of_decide_eq_true za25;obtain ⟨ad92004,e92004,hx92004_0⟩:=Kd.at_int HR0.out 2 p92004 q92004;obtain rfl:ad92002=ad92004:=(by injection e92004);(try simp only [show (2:Int).toNat=2 from rfl,Nat.reduceMul,Nat.reduceEqDiff,Go.Addr.add,↓reduceIte] at hx92004_0);have qi92004:(2 < l0.length)=True:=eq_true (by omega);(try rw [show ((2:Int)).toNat=2 from rfl] at hx92004_0);replace hx92004_0:=zx HB.out hx92004_0;replace p92004:=eq_true p92004;replace q92004:=eq_true q92004)));try go_wp2_with ((((with_reducible refine gate_dst (N:=3) rfl ?_);refine zE (cs:=#[.string a1_0,.string a1_1,.string a1_2]) (t:=32) ?_;intro gb1 hg w6 hbox hb;have BK1:=zk hbox;have GW1:=zk (zs (w:=w) hg za8);have GE1:=GW1;replace HB:=yB HB hb;clear hb hbox hg;have p92002:0≤(0:Int):=(by omega);have q92002:0 < (l0.length:Int):=of_decide_eq_true za25;obtain ⟨ad92002,e92002,hx92002_0⟩:=Kd.at_int HR0.out 0 p92002 q92002;cases e92002;have qi92002:(0 < l0.length)=True:=eq_true (by omega);(try rw [show ((0:Int)).toNat=0 from rfl] at hx92002_0);(try rw [Addr.add_zero'] at hx92002_0);replace hx92002_0:=zx HB.out hx92002_0;replace p92002:=eq_true p92002;replace q92002:=eq_true q92002;obtain ⟨hcz7_0,hcz7_1,hcz7_2,hfz7_0,hfz7_1,hfz7_2⟩:=blk3 BK1.out;have p92003:0≤(1:Int):=(by omega);have q92003:1 < (l0.length:Int):=of_decide_eq_true za25;obtain ⟨ad92003,e92003,hx92003_0⟩:=Kd.at_int HR0.out 1 p92003 q92003;obtain rfl:ad92002=ad92003:=(by injection e92003);(try simp only [show (1:Int).toNat=1 from rfl,Nat.reduceMul,Nat.reduceEqDiff,Go.Addr.add,↓reduceIte] at hx92003_0);have qi92003:(1 < l0.length)=True:=eq_true (by omega);(try rw [show ((1:Int)).toNat=1 from rfl] at hx92003_0);replace hx92003_0:=zx HB.out hx92003_0;replace p92003:=eq_true p92003;replace q92003:=eq_true q92003;have p92004:0≤(2:Int):=(by omega);have q92004:2 < (l0.length:Int):=of_decide_eq_true za25;obtain ⟨ad92004,e92004,hx92004_0⟩:=Kd.at_int HR0.out 2 p92004 q92004;obtain rfl:ad92002=ad92004:=(by injection e92004);(try simp only [show (2:Int).toNat=2 from rfl,Nat.reduceMul,Nat.reduceEqDiff,Go.Addr.add,↓reduceIte] at hx92004_0);have qi92004:(2 < l0.length)=True:=eq_true (by omega);(try rw [show ((2:Int)).toNat=2 from rfl] at hx92004_0);replace hx92004_0:=zx HB.out hx92004_0;replace p92004:=eq_true p92004;replace q92004:=eq_true q92004))))
  go_ret
  exact ⟨by (rfl),za8⟩
 ·rw [if_neg c5] at H
  exact absurd H (by simp)
 ·rw [if_neg c4] at H
  exact absurd H (by simp)
 ·rw [if_neg c3] at H
  exact absurd H (by simp)
def spec_l9Holds.f (k:Nat) (a0_0:Int) (a0_1:ByteArray) (a0_2:ByteArray) (a0_3:Int) (a0_4:ByteArray) (l0_5:List (S54)) (l0_6:List Int) (a0_7:Int) (a1_0:ByteArray) (a1_1:ByteArray) (a1_2:ByteArray):Option (Bool):=(spec_ApplyValues.f k a0_1 a1_0 a1_1 a1_2).bind fun t64003=>(if a0_0=1 then ((spec_ApplyValues.f k a0_2 a1_0 a1_1 a1_2).bind fun t64004=>(some (t64003.toList == t64004.toList))) else (if a0_0=2 then ((spec_ApplyValues.f k a0_2 a1_0 a1_1 a1_2).bind fun t64005=>(some (t64003.toList != t64005.toList))) else (if a0_0=3 then ((spec_l4Match.f a0_3 a0_4 l0_5 t64003).bind fun t64006=>(some t64006)) else (if a0_0=4 then ((spec_l4Match.f a0_3 a0_4 l0_5 t64003).bind fun t64007=>(some (!t64007))) else ((spec_l9Sum.f l0_6 a1_0 a1_1 a1_2).bind fun t64008=>(some (decide (t64008≤a0_7))))))))
def spec_l9Holds.T11:Bool × List (List Nat × List Nat):=(true,[([],[]),([0],[0]),([],[]),([1,2],[1,2]),([],[]),([4],[4]),([3,5],[3,5]),([6,3,0,1,2,3,4,5,6],[6])])
def spec_l9Holds.B11:List Nat:=[0,1,0,7,0,16,63,127]
theorem spec_l9Holds.tab11:rtab .any (opsOf Tryz.f64 11)=spec_l9Holds.T11:=by kernel_rfl
theorem spec_l9Holds.bits11:waitsOk spec_l9Holds.T11.2 spec_l9Holds.B11=true:=by kernel_rfl
theorem spec_l9Holds.calls (k:Nat) (a0_0:Int) (a0_1:ByteArray) (a0_2:ByteArray) (a0_3:Int) (a0_4:ByteArray) (A0_5:Option Addr) (c0_5:Nat) (l0_5:List (S54)) (A0_6:Option Addr) (c0_6:Nat) (l0_6:List Int) (a0_7:Int) (a1_0:ByteArray) (a1_1:ByteArray) (a1_2:ByteArray) (r:Bool) (w:World) (hr0_5:Kd.C k54 w A0_5 l0_5.length l0_5) (hc0_5:l0_5.length≤c0_5) (hr0_6:Kd.C (Kd.int .i64) w A0_6 l0_6.length l0_6) (hc0_6:l0_6.length≤c0_6) (h:spec_l9Holds.f k a0_0 a0_1 a0_2 a0_3 a0_4 l0_5 l0_6 a0_7 a1_0 a1_1 a1_2=some r) :
   Calls Tryz.prog 64 #[.agg #[.int .i64 a0_0,.string a0_1,.string a0_2,.int .i64 a0_3,.string a0_4,.slice A0_5 l0_5.length c0_5,.slice A0_6 l0_6.length c0_6,.int .i64 a0_7],.agg #[.string a1_0,.string a1_1,.string a1_2]] w fun e w'=>e = .returned (.bool r)∧Below w.heap.size w w':=by
 have hu56:=Tryz.underlying56
 have hu32:=Tryz.underlying32
 have hu54:=Tryz.underlying54
 have HR0_5:=zk hr0_5
 have HC0_5:=zk hc0_5
 clear hr0_5 hc0_5
 have HR0_6:=zk hr0_6
 have HC0_6:=zk hc0_6
 clear hr0_6 hc0_6
 have HB:=zk (Below.refl w.heap.size w)
 have H:=h
 unfold spec_l9Holds.f at H
 clear h
 go_enter Tryz.func64,Tryz.ntmps64
 go_upto_region 1 with (first|((with_reducible refine gate_dst (N:=2) rfl ?_);refine zE (cs:=#[.int .i64 a0_0,.string a0_1,.string a0_2,.int .i64 a0_3,.string a0_4,.slice A0_5 l0_5.length c0_5,.slice A0_6 l0_6.length c0_6,.int .i64 a0_7]) (t:=56) ?_;intro gb1 hg w47 hbox hb;have BK1:=zk hbox;have GW1:=zk (zs (w:=w) hg za8);have GE1:=GW1;replace HB:=yB HB hb;clear hb hbox hg)|((with_reducible refine gate_dst (N:=3) rfl ?_);refine zE (cs:=#[.string a1_0,.string a1_1,.string a1_2]) (t:=32) ?_;intro gb2 hg w48 hbox hb;have BK2:=zk hbox;have GW2:=zk (zs (w:=w) hg za8);have GE2:=GW2;have NB1_2:=yn hg BK1;have NB2_1:=yp hg BK1;replace BK1:=yb BK1 hb;replace HB:=yB HB hb;clear hb hbox hg;have hnb49:=NB1_2.out;have hnc49:=NB2_1.out;obtain ⟨hcz50_0,hcz50_1,hcz50_2,hcz50_3,hcz50_4,hcz50_5,hcz50_6,hcz50_7,hfz50_0,hfz50_1,hfz50_2,hfz50_3,hfz50_4,hfz50_5,hfz50_6,hfz50_7⟩:=blk8 BK1.out;obtain ⟨hcz51_0,hcz51_1,hcz51_2,hfz51_0,hfz51_1,hfz51_2⟩:=blk3 BK2.out))
 obtain ⟨t3,A3,H⟩:=zO H
 try dsimp only at H
 by_cases c4:a0_0=1
 rw [if_pos c4] at H
 have c4b0:=zbt c4
 have c4b1:=zqn c4
 clear c4
 obtain ⟨t4,A5,H⟩:=zO H
 try dsimp only at H
 have tag1_:=zk trivial
 rotate_left
 rw [if_neg c4] at H
 have c4b0:=zbn c4
 have c4b1:=zqt c4
 by_cases c15:a0_0=2
 rw [if_pos c15] at H
 have c15b0:=zbt c15
 have c15b1:=zqn c15
 clear c15
 obtain ⟨t5,A16,H⟩:=zO H
 try dsimp only at H
 have tag0_:=zk trivial
 rotate_left
 rw [if_neg c15] at H
 have c15b0:=zbn c15
 have c15b1:=zqt c15
 by_cases c26:a0_0=3
 rw [if_pos c26] at H
 have c26b0:=zbt c26
 have c26b1:=zqn c26
 clear c26
 obtain ⟨t6,A27,H⟩:=zO H
 try dsimp only at H
 have tag0_:=zk trivial
 rotate_left
 rw [if_neg c26] at H
 have c26b0:=zbn c26
 have c26b1:=zqt c26
 by_cases c36:a0_0=4
 rw [if_pos c36] at H
 have c36b0:=zbt c36
 have c36b1:=zqn c36
 clear c36
 obtain ⟨t7,A37,H⟩:=zO H
 try dsimp only at H
 have tag1_:=zk trivial
 rotate_left
 · rw [if_neg c36] at H
   have c36b0:=zbn c36
   have c36b1:=zqt c36
   obtain ⟨t8,A46,H⟩:=zO H
   try dsimp only at H
   obtain rfl:=zi H
   go_wp2_with ((((with_reducible refine gate_callee (f:=90) rfl ?_);refine zg (some 9) Tryz.func90 #[.string a0_1,.agg #[.string a1_0,.string a1_1,.string a1_2]] rfl za11 ?_;(with_reducible refine (spec_ApplyValues.calls k a0_1 a1_0 a1_1 a1_2 t3 _ A3.out).mono ?_);rintro e w52 ⟨rfl,hb⟩;refine ⟨_,rfl,?_⟩;replace BK1:=yb BK1 hb;replace BK2:=yb BK2 hb;replace HB:=yB HB hb;(try clear hb);obtain ⟨hcz53_0,hcz53_1,hcz53_2,hcz53_3,hcz53_4,hcz53_5,hcz53_6,hcz53_7,hfz53_0,hfz53_1,hfz53_2,hfz53_3,hfz53_4,hfz53_5,hfz53_6,hfz53_7⟩:=blk8 BK1.out)))
   replace BK1:=zk (blk_drew BK1.out)
   replace BK2:=zk (blk_drew BK2.out)
   replace HB:=zk (below_drew1 HB.out)
   refine start_ (n:=8) (S:=fun w'=>w'.cell? ⟨gb1,0,none⟩=some (.int .i64 a0_0)∧w'.cell? ⟨gb1,1,none⟩=some (.string a0_1)∧w'.cell? ⟨gb1,2,none⟩=some (.string a0_2)∧w'.cell? ⟨gb1,3,none⟩=some (.int .i64 a0_3)∧w'.cell? ⟨gb1,4,none⟩=some (.string a0_4)∧w'.cell? ⟨gb1,5,none⟩=some (.slice A0_5 l0_5.length c0_5)∧w'.cell? ⟨gb1,6,none⟩=some (.slice A0_6 l0_6.length c0_6)∧w'.cell? ⟨gb1,7,none⟩=some (.int .i64 a0_7)∧w'.cell? ⟨gb2,0,none⟩=some (.string a1_0)∧w'.cell? ⟨gb2,1,none⟩=some (.string a1_1)∧w'.cell? ⟨gb2,2,none⟩=some (.string a1_2)) (ds:=[]) #[false,false,false,false,false,false,false,false] (by kernel_rfl) rfl rfl ⟨(blk_cell BK1.out 0).trans rfl,(blk_cell BK1.out 1).trans rfl,(blk_cell BK1.out 2).trans rfl,(blk_cell BK1.out 3).trans rfl,(blk_cell BK1.out 4).trans rfl,(blk_cell BK1.out 5).trans rfl,(blk_cell BK1.out 6).trans rfl,(blk_cell BK1.out 7).trans rfl,(blk_cell BK2.out 0).trans rfl,(blk_cell BK2.out 1).trans rfl,(blk_cell BK2.out 2).trans rfl⟩ (fun hHeld=>?_);refine with_tabW spec_l9Holds.tab11 spec_l9Holds.bits11 (fun HT_ HW_=>?_)
   generalize w52.drew=w54 at BK1 BK2 HB hHeld ⊢
   refine zy 0 (some 41) HT_.out ?_
   refine zy 4 (some 45) HT_.out ?_
   refine ztk 1 (some 42) HT_.out HW_.out hHeld ?_
   refine ztk 2 (some 43) HT_.out HW_.out hHeld ?_
   refine ztk 5 (some 46) HT_.out HW_.out hHeld ?_
   refine zon 3 (some 44) HT_.out (fun K hK=>?_)
   refine goes_ Tryz.func92 (by kernel_rfl) rfl #[.slice A0_6 l0_6.length c0_6,.agg #[.string a1_0,.string a1_1,.string a1_2]] (by rfl) rfl rfl za11 ?_
   with_reducible refine (spec_l9Sum.calls _ _ l0_6 a1_0 a1_1 a1_2 t8 _ ?side1 ?side2 A46.out).mono ?_
   (case side1=>repeat ((exact (Kd.C_below HR0_6.out HB.out))))
   (case side2=>exact HC0_6.out)
   rintro e w55 ⟨rfl,hb⟩
   refine ⟨_,rfl,?_⟩
   replace BK1:=yb BK1 hb
   replace BK2:=yb BK2 hb
   replace HB:=yB HB hb
   (try clear hb)
   (try clear hb2)
   (try clear hk)
   (try clear hi)
   refine hK.out _ _ ⟨(blk_cell BK1.out 0).trans rfl,(blk_cell BK1.out 1).trans rfl,(blk_cell BK1.out 2).trans rfl,(blk_cell BK1.out 3).trans rfl,(blk_cell BK1.out 4).trans rfl,(blk_cell BK1.out 5).trans rfl,(blk_cell BK1.out 6).trans rfl,(blk_cell BK1.out 7).trans rfl,(blk_cell BK2.out 0).trans rfl,(blk_cell BK2.out 1).trans rfl,(blk_cell BK2.out 2).trans rfl⟩ (fun hHeld=>?_)
   clear hK K
   refine zno (some 44) ?_
   refine zy 6 (some 47) HT_.out ?_
   refine zy 7 (some 4) HT_.out ?_
   refine done_ (done_of HT_.out (by kernel_rfl)) ?_
   try go_wp2
   go_ret
   exact ⟨by (rfl),za8⟩
 all_goals first
  | (
    clear tag0_
    obtain rfl:=zi H
    go_wp2_with (first|((with_reducible refine gate_callee (f:=90) rfl ?_);refine zg (some 9) Tryz.func90 #[.string a0_1,.agg #[.string a1_0,.string a1_1,.string a1_2]] rfl za11 ?_;(with_reducible refine (spec_ApplyValues.calls k a0_1 a1_0 a1_1 a1_2 t3 _ A3.out).mono ?_);rintro e w22 ⟨rfl,hb⟩;refine ⟨_,rfl,?_⟩;replace BK1:=yb BK1 hb;replace BK2:=yb BK2 hb;replace HB:=yB HB hb;(try clear hb);obtain ⟨hcz23_0,hcz23_1,hcz23_2,hcz23_3,hcz23_4,hcz23_5,hcz23_6,hcz23_7,hfz23_0,hfz23_1,hfz23_2,hfz23_3,hfz23_4,hfz23_5,hfz23_6,hfz23_7⟩:=blk8 BK1.out;obtain ⟨hcz24_0,hcz24_1,hcz24_2,hfz24_0,hfz24_1,hfz24_2⟩:=blk3 BK2.out)|((with_reducible refine gate_callee (f:=91) rfl ?_);refine zg (some 33) Tryz.func91 #[.agg #[.int .i64 a0_3,.string a0_4,.slice A0_5 l0_5.length c0_5],.string t3] rfl za11 ?_;(with_reducible refine (spec_l4Match.calls a0_3 a0_4 _ _ l0_5 t3 t6 _ ?side1 ?side2 A27.out).mono ?_);(case side1=>repeat ((exact (Kd.C_below HR0_5.out HB.out))));(case side2=>exact HC0_5.out);rintro e w35 ⟨rfl,hb⟩;refine ⟨_,rfl,?_⟩;replace BK1:=yb BK1 hb;replace BK2:=yb BK2 hb;replace HB:=yB HB hb;(try clear hb))|((with_reducible refine gate_callee (f:=90) rfl ?_);refine zg (some 26) Tryz.func90 #[.string a0_2,.agg #[.string a1_0,.string a1_1,.string a1_2]] rfl za11 ?_;(with_reducible refine (spec_ApplyValues.calls k a0_2 a1_0 a1_1 a1_2 t5 _ A16.out).mono ?_);rintro e w25 ⟨rfl,hb⟩;refine ⟨_,rfl,?_⟩;replace BK1:=yb BK1 hb;replace BK2:=yb BK2 hb;replace HB:=yB HB hb;(try clear hb)))
    go_ret
    exact ⟨za24,za9⟩)
  | (
    clear tag1_
    obtain rfl:=zi H
    go_wp2_with (first|((with_reducible refine gate_callee (f:=90) rfl ?_);refine zg (some 9) Tryz.func90 #[.string a0_1,.agg #[.string a1_0,.string a1_1,.string a1_2]] rfl za11 ?_;(with_reducible refine (spec_ApplyValues.calls k a0_1 a1_0 a1_1 a1_2 t3 _ A3.out).mono ?_);rintro e w11 ⟨rfl,hb⟩;refine ⟨_,rfl,?_⟩;replace BK1:=yb BK1 hb;replace BK2:=yb BK2 hb;replace HB:=yB HB hb;(try clear hb);obtain ⟨hcz12_0,hcz12_1,hcz12_2,hcz12_3,hcz12_4,hcz12_5,hcz12_6,hcz12_7,hfz12_0,hfz12_1,hfz12_2,hfz12_3,hfz12_4,hfz12_5,hfz12_6,hfz12_7⟩:=blk8 BK1.out;obtain ⟨hcz13_0,hcz13_1,hcz13_2,hfz13_0,hfz13_1,hfz13_2⟩:=blk3 BK2.out)|((with_reducible refine gate_callee (f:=91) rfl ?_);refine zg (some 39) Tryz.func91 #[.agg #[.int .i64 a0_3,.string a0_4,.slice A0_5 l0_5.length c0_5],.string t3] rfl za11 ?_;(with_reducible refine (spec_l4Match.calls a0_3 a0_4 _ _ l0_5 t3 t7 _ ?side1 ?side2 A37.out).mono ?_);(case side1=>repeat ((exact (Kd.C_below HR0_5.out HB.out))));(case side2=>exact HC0_5.out);rintro e w45 ⟨rfl,hb⟩;refine ⟨_,rfl,?_⟩;replace BK1:=yb BK1 hb;replace BK2:=yb BK2 hb;replace HB:=yB HB hb;(try clear hb))|((with_reducible refine gate_callee (f:=90) rfl ?_);refine zg (some 18) Tryz.func90 #[.string a0_2,.agg #[.string a1_0,.string a1_1,.string a1_2]] rfl za11 ?_;(with_reducible refine (spec_ApplyValues.calls k a0_2 a1_0 a1_1 a1_2 t4 _ A5.out).mono ?_);rintro e w14 ⟨rfl,hb⟩;refine ⟨_,rfl,?_⟩;replace BK1:=yb BK1 hb;replace BK2:=yb BK2 hb;replace HB:=yB HB hb;(try clear hb)))
    go_ret
    exact ⟨by (rfl),za8⟩)
def spec_HoldsFor.f (k:Nat) (a0_0:Int) (a0_1:ByteArray) (a0_2:ByteArray) (a0_3:Int) (a0_4:ByteArray) (l0_5:List (S54)) (l0_6:List Int) (a0_7:Int) (a1_0:ByteArray) (a1_1:ByteArray) (a1_2:ByteArray):Option (Bool):=(spec_IsValidConstraint.f k a0_0 a0_1 a0_2 a0_3 a0_4 l0_5 l0_6 a0_7).bind fun t40003=>(if t40003=true then ((spec_IsValues.f k a1_0 a1_1 a1_2).bind fun t40004=>(if t40004=true then ((spec_l9Holds.f k a0_0 a0_1 a0_2 a0_3 a0_4 l0_5 l0_6 a0_7 a1_0 a1_1 a1_2).bind fun t40005=>(some t40005)) else (some false))) else (some false))
theorem spec_HoldsFor.calls (k:Nat) (a0_0:Int) (a0_1:ByteArray) (a0_2:ByteArray) (a0_3:Int) (a0_4:ByteArray) (A0_5:Option Addr) (c0_5:Nat) (l0_5:List (S54)) (A0_6:Option Addr) (c0_6:Nat) (l0_6:List Int) (a0_7:Int) (a1_0:ByteArray) (a1_1:ByteArray) (a1_2:ByteArray) (r:Bool) (w:World) (hr0_5:Kd.C k54 w A0_5 l0_5.length l0_5) (hc0_5:l0_5.length≤c0_5) (hr0_6:Kd.C (Kd.int .i64) w A0_6 l0_6.length l0_6) (hc0_6:l0_6.length≤c0_6) (h:spec_HoldsFor.f k a0_0 a0_1 a0_2 a0_3 a0_4 l0_5 l0_6 a0_7 a1_0 a1_1 a1_2=some r) :
   Calls Tryz.prog 40 #[.agg #[.int .i64 a0_0,.string a0_1,.string a0_2,.int .i64 a0_3,.string a0_4,.slice A0_5 l0_5.length c0_5,.slice A0_6 l0_6.length c0_6,.int .i64 a0_7],.agg #[.string a1_0,.string a1_1,.string a1_2]] w fun e w'=>e = .returned (.bool r)∧Below w.heap.size w w':=by
 have hu56:=Tryz.underlying56
 have hu32:=Tryz.underlying32
 have HR0_5:=zk hr0_5
 have HC0_5:=zk hc0_5
 clear hr0_5 hc0_5
 have HR0_6:=zk hr0_6
 have HC0_6:=zk hc0_6
 clear hr0_6 hc0_6
 have HB:=zk (Below.refl w.heap.size w)
 have H:=h
 unfold spec_HoldsFor.f at H
 clear h
 obtain ⟨t3,A3,H⟩:=zO H
 try dsimp only at H
 by_cases c4:t3=true
 subst c4
 rw [if_pos rfl] at H
 try dsimp only at H
 obtain ⟨t4,A5,H⟩:=zO H
 try dsimp only at H
 by_cases c6:t4=true
 subst c6
 rw [if_pos rfl] at H
 try dsimp only at H
 obtain ⟨t5,A7,H⟩:=zO H
 try dsimp only at H
 rotate_left
 replace c6:=Bool.eq_false_iff.mpr c6
 subst c6
 rw [if_neg zff] at H
 try dsimp only at H
 rotate_left
 replace c4:=Bool.eq_false_iff.mpr c4
 subst c4
 rw [if_neg zff] at H
 try dsimp only at H
 rotate_left
 all_goals
  obtain rfl:=zi H
  go_enter Tryz.func40,Tryz.ntmps40
  go_wp2_with (first|((with_reducible refine gate_dst (N:=2) rfl ?_);refine zE (cs:=#[.int .i64 a0_0,.string a0_1,.string a0_2,.int .i64 a0_3,.string a0_4,.slice A0_5 l0_5.length c0_5,.slice A0_6 l0_6.length c0_6,.int .i64 a0_7]) (t:=56) ?_;intro gb1 hg w18 hbox hb;have BK1:=zk hbox;have GW1:=zk (zs (w:=w) hg za8);have GE1:=GW1;replace HB:=yB HB hb;clear hb hbox hg)|((with_reducible refine gate_dst (N:=3) rfl ?_);refine zE (cs:=#[.string a1_0,.string a1_1,.string a1_2]) (t:=32) ?_;intro gb2 hg w19 hbox hb;have BK2:=zk hbox;have GW2:=zk (zs (w:=w) hg za8);have GE2:=GW2;have NB1_2:=yn hg BK1;have NB2_1:=yp hg BK1;replace BK1:=yb BK1 hb;replace HB:=yB HB hb;clear hb hbox hg;have hnb20:=NB1_2.out;have hnc20:=NB2_1.out;obtain ⟨hcz21_0,hcz21_1,hcz21_2,hcz21_3,hcz21_4,hcz21_5,hcz21_6,hcz21_7,hfz21_0,hfz21_1,hfz21_2,hfz21_3,hfz21_4,hfz21_5,hfz21_6,hfz21_7⟩:=blk8 BK1.out)|((with_reducible refine gate_callee (f:=50) rfl ?_);refine zg (some 6) Tryz.func50 #[.agg #[.int .i64 a0_0,.string a0_1,.string a0_2,.int .i64 a0_3,.string a0_4,.slice A0_5 l0_5.length c0_5,.slice A0_6 l0_6.length c0_6,.int .i64 a0_7]] rfl za11 ?_;(with_reducible refine (spec_IsValidConstraint.calls k a0_0 a0_1 a0_2 a0_3 a0_4 _ _ l0_5 _ _ l0_6 a0_7 _ _ ?side1 ?side2 ?side3 ?side4 A3.out).mono ?_);(case side1=>repeat ((exact (Kd.C_below HR0_5.out HB.out))));(case side2=>exact HC0_5.out);(case side3=>repeat ((exact (Kd.C_below HR0_6.out HB.out))));(case side4=>exact HC0_6.out);rintro e w12 ⟨rfl,hb⟩;refine ⟨_,rfl,?_⟩;replace BK1:=yb BK1 hb;replace BK2:=yb BK2 hb;replace HB:=yB HB hb;(try clear hb);obtain ⟨hcz13_0,hcz13_1,hcz13_2,hfz13_0,hfz13_1,hfz13_2⟩:=blk3 BK2.out)|(go_at_call 41;(with_reducible refine (spec_IsValues.calls k a1_0 a1_1 a1_2 _ _ A5.out).mono ?_);rintro e w14 ⟨rfl,hb⟩;replace BK1:=yb BK1 hb;replace BK2:=yb BK2 hb;replace HB:=yB HB hb;(try clear hb);obtain ⟨hcz15_0,hcz15_1,hcz15_2,hcz15_3,hcz15_4,hcz15_5,hcz15_6,hcz15_7,hfz15_0,hfz15_1,hfz15_2,hfz15_3,hfz15_4,hfz15_5,hfz15_6,hfz15_7⟩:=blk8 BK1.out;obtain ⟨hcz16_0,hcz16_1,hcz16_2,hfz16_0,hfz16_1,hfz16_2⟩:=blk3 BK2.out)|(go_at_call 64;(with_reducible refine (spec_l9Holds.calls k a0_0 a0_1 a0_2 a0_3 a0_4 _ _ l0_5 _ _ l0_6 a0_7 a1_0 a1_1 a1_2 t5 _ ?side1 ?side2 ?side3 ?side4 A7.out).mono ?_);(case side1=>repeat ((exact (Kd.C_below HR0_5.out HB.out))));(case side2=>exact HC0_5.out);(case side3=>repeat ((exact (Kd.C_below HR0_6.out HB.out))));(case side4=>exact HC0_6.out);rintro e w17 ⟨rfl,hb⟩;replace BK1:=yb BK1 hb;replace BK2:=yb BK2 hb;replace HB:=yB HB hb;(try clear hb)))
  go_ret
  exact ⟨by (rfl),za8⟩
mutual
def spec_l9Draw.j0:Nat→ByteArray→Int→Bool→List Int→Int→Int→Option (Int × ByteArray × ByteArray × Int × ByteArray × (List (S54)) × List Int × Int × Int × Int)
 | 0,_,_,_,_,_,_=>none
 | k+1,x1,x10,x11,x1000,x1001,x1002=>if x11=true then ((spec_l8Draw.f k x1000 x1001 x1002 4 x1).bind fun bt61005=>((spec_l8Draw.f k x1000 bt61005.2.1 bt61005.2.2 4 x1).bind fun bt61008=>(some (1,bt61005.1,bt61008.1,0,(⟨#[]⟩:ByteArray),([]:List (S54)),([]:List Int),0,bt61008.2.1,bt61008.2.2)))) else (if x10=3 then ((spec_l8Draw.f k x1000 x1001 x1002 3 x1).bind fun bt61011=>((spec_l8Draw.f k x1000 bt61011.2.1 bt61011.2.2 3 x1).bind fun bt61014=>(some (2,bt61011.1,bt61014.1,0,(⟨#[]⟩:ByteArray),([]:List (S54)),([]:List Int),0,bt61014.2.1,bt61014.2.2)))) else (if x10=4 then (spec_l9Draw.j1 k x1 x10 (x10 == 4) x1000 x1001 x1002) else (spec_l9Draw.j1 k x1 x10 (x10 == 5) x1000 x1001 x1002)))
def spec_l9Draw.j1:Nat→ByteArray→Int→Bool→List Int→Int→Int→Option (Int × ByteArray × ByteArray × Int × ByteArray × (List (S54)) × List Int × Int × Int × Int)
 | 0,_,_,_,_,_,_=>none
 | k+1,x1,x10,x33,x1000,x1001,x1002=>if x33=true then (if 0≤1 then (if 1≤(x1.size:Int) then ((spec_l3Draw.f k x1000 x1001 x1002 3).bind fun bt61017=>(some (3,x1.extract 0 1,(⟨#[]⟩:ByteArray),bt61017.1,bt61017.2.1,bt61017.2.2.1,([]:List Int),0,bt61017.2.2.2.1,bt61017.2.2.2.2))) else (none)) else (none)) else (if x10=6 then (if 0≤(wrap64 ((x1.size:Int) - 1)) then (if (wrap64 ((x1.size:Int) - 1))≤(x1.size:Int) then ((spec_l3Draw.f k x1000 x1001 x1002 3).bind fun bt61024=>(some (4,x1.extract ((wrap64 ((x1.size:Int) - 1)):Int).toNat x1.size,(⟨#[]⟩:ByteArray),bt61024.1,bt61024.2.1,bt61024.2.2.1,([]:List Int),0,bt61024.2.2.2.1,bt61024.2.2.2.2))) else (none)) else (none)) else ((spec_l1PickInt.f x1000 x1001 x1002 (([0,1,3,(-1)]:List Int))).bind fun bt61034=>(spec_l9Draw.l0 k x1 0 x1000 bt61034.2.1 bt61034.2.2 5 (⟨#[]⟩:ByteArray) (⟨#[]⟩:ByteArray) 0 (⟨#[]⟩:ByteArray) ([]:List Int) bt61034.1)))
def spec_l9Draw.l0:Nat→ByteArray→Int→List Int→Int→Int→Int→ByteArray→ByteArray→Int→ByteArray→List Int→Int→Option (Int × ByteArray × ByteArray × Int × ByteArray × (List (S54)) × List Int × Int × Int × Int)
 | 0,_,_,_,_,_,_,_,_,_,_,_,_=>none
 | k+1,x1,x8,x1000,x1001,x1002,x61038000,x61038001,x61038002,x61038003,x61038004,x61038006,x61038007=>if x8 < 3 then (if 0≤x8 then ((spec_CountByte.f k x1 (bt (⟨#[88,89,90]⟩:ByteArray) x8)).bind fun t61038=>((spec_l1Bit.f (decide (t61038 > 0))).bind fun t61039=>((spec_l1PickInt.f x1000 x1001 x1002 (([1,(-1),0,2]:List Int))).bind fun bt61043=>(if x61038006.length < 17592186044416 then (spec_l9Draw.l0 k x1 (wrap64 (x8+1)) x1000 bt61043.2.1 bt61043.2.2 x61038000 x61038001 x61038002 x61038003 x61038004 (x61038006 ++ [wrap64 (t61039 * bt61043.1)]) x61038007) else (none))))) else (none)) else (some (x61038000,x61038001,x61038002,x61038003,x61038004,([]:List (S54)),x61038006,x61038007,x1001,x1002))
end
def spec_l9Draw.f (k:Nat) (s0_0:List Int) (s0_1:Int) (s0_2:Int) (a1:ByteArray):Option (Int × ByteArray × ByteArray × Int × ByteArray × (List (S54)) × List Int × Int × Int × Int):=(spec_l1Below.f s0_0 s0_1 s0_2 8).bind fun bt61002=>(if bt61002.1=0 then (spec_l9Draw.j0 k a1 bt61002.1 (bt61002.1 == 0) s0_0 bt61002.2.1 bt61002.2.2) else (if bt61002.1=1 then (spec_l9Draw.j0 k a1 bt61002.1 (bt61002.1 == 1) s0_0 bt61002.2.1 bt61002.2.2) else (spec_l9Draw.j0 k a1 bt61002.1 (bt61002.1 == 2) s0_0 bt61002.2.1 bt61002.2.2)))
def spec_l9Draw.T14:Bool × List (List Nat × List Nat):=(true,[([],[]),([],[]),([1],[1]),([2],[2]),([0,3],[0,3]),([],[]),([5],[5]),([4,6],[4,6]),([7,6,0,1,2,3,4,5,6,7],[7])])
def spec_l9Draw.B14:List Nat:=[0,0,2,6,15,0,32,127,255]
theorem spec_l9Draw.tab14:rtab .any (opsOf Tryz.f61 14)=spec_l9Draw.T14:=by kernel_rfl
theorem spec_l9Draw.bits14:waitsOk spec_l9Draw.T14.2 spec_l9Draw.B14=true:=by kernel_rfl
def spec_l9Draw.T19:Bool × List (List Nat × List Nat):=(true,[([],[]),([0],[0]),([],[]),([],[]),([3],[3]),([2,4],[2,4]),([5],[5]),([6,5],[6]),([],[]),([],[]),([8,9,7],[8,9]),([7,10],[7,10]),([11],[11]),([1,12,10],[1,12]),([0,1,2,3,4,5,6,7,8,9,10,11,12,13],[]),([14,13,13,0,1,2,3,4,5,6,7,8,9,10,11,12,13],[13,14])])
def spec_l9Draw.B19:List Nat:=[0,1,0,0,8,28,60,124,0,0,1020,2044,4092,8191,16383,32767]
theorem spec_l9Draw.tab19:rtab .any (opsOf Tryz.f61 19)=spec_l9Draw.T19:=by kernel_rfl
theorem spec_l9Draw.bits19:waitsOk spec_l9Draw.T19.2 spec_l9Draw.B19=true:=by kernel_rfl
theorem spec_l9Draw.calls (k:Nat) (g:Nat) (s0_0:List Int) (s0_1:Int) (s0_2:Int) (a1:ByteArray) (r1:Int) (r2:ByteArray) (r3:ByteArray) (r4:Int) (r5:ByteArray) (r6:List (S54)) (r7:List Int) (r8:Int) (r9:Int) (r10:Int) (w0 w:World) (hI:IsS77 w0 w g s0_0 s0_1 s0_2) (hB:Below w0.heap.size w0 w) (h:spec_l9Draw.f k s0_0 s0_1 s0_2 a1=some (r1,r2,r3,r4,r5,r6,r7,r8,r9,r10)) :
   Calls Tryz.prog 61 #[.pointer (some ⟨g,0,none⟩),.string a1] w fun e w'=>∃ v5_ v6_:Value,e = .returned (.agg #[.int .i64 r1,.string r2,.string r3,.int .i64 r4,.string r5,v5_,v6_,.int .i64 r8])∧Kd.N k54 54 w' w.heap.size (fun k_=>(w.heap.size≤k_)∧some k_ ≠ (v6_:Value).ownBlock) v5_ r6∧Kd.R (Kd.int .i64) 3 w' w.heap.size (fun k_=>(w.heap.size≤k_)) v6_ r7∧IsS77 w0 w' g s0_0 r9 r10∧Below w0.heap.size w0 w'∧KeepBut w w' g none:=by
 have hu56:=Tryz.underlying56
 have HI0:=zk hI
 have HK:=zk (KeepBut.refl w g none)
 have HL:=zk hB.size
 clear hI
 have HW0:=zk hB.size
 have HB:=zk hB
 clear hB
 have H:=h
 unfold spec_l9Draw.f at H
 clear h
 obtain ⟨⟨t2,t3,t4⟩,A3,H⟩:=zO H
 try dsimp only at H
 have HC4:=zk H
 clear H
 go_enter Tryz.func61,Tryz.ntmps61
 go_upto_if 11 with (first|((with_reducible refine gate_dst (N:=4) rfl ?_);refine zE (cs:=#[.int .i64 0,.string ⟨#[]⟩,.string ⟨#[]⟩,.int .i64 0,.string ⟨#[]⟩,.slice none 0 0,.slice none 0 0,.int .i64 0]) (t:=56) ?_;intro gb1 hg w5 hbox hb;replace HB:=yB HB hb;have BK1:=zk hbox;have GW1:=zk ((by rw [hg];exact (keep_size (w:=w) (g:=g) (row:=none) za16):w.heap.size≤gb1));have GE1:=zk ((Nat.le_trans HW0.out (by rw [hg];exact (keep_size (w:=w) (g:=g) (row:=none) za16):w.heap.size≤gb1):w0.heap.size≤gb1));have NB0_1:=zk (zm hg (IsS77.lt (show IsS77 w0 _ g s0_0 s0_1 s0_2 from za27)));have NB1_0:=zk (zM hg (IsS77.lt (show IsS77 w0 _ g s0_0 s0_1 s0_2 from za27)));replace HI0:=zk (IsS77.below za27 hb);replace HK:=yk HK hb;clear hb hbox hg)|((with_reducible refine gate_callee (f:=42) rfl ?_);refine zg (some 10) Tryz.func42 #[.pointer (some ⟨g,0,none⟩),.int .i64 8] rfl za11 ?_;(with_reducible refine (spec_l1Below.calls g s0_0 s0_1 s0_2 8 t2 t3 t4 w0 _ za13 za18 A3.out).mono ?_);rintro e w6 ⟨rfl,hi,hb,hk⟩;refine ⟨_,rfl,?_⟩;replace BK1:=yq hk BK1 NB1_0;replace HK:=yK HK hk;replace HB:=zk hb;replace HI0:=zk hi;(try clear hb hk hi)))
 (try simp only [Act.put,zt,zu,zv])
 go_cut [11] (fun v11 wc=>∃ (kq:Nat) (x11_3:Bool),v11 = .bool x11_3∧Aside0 (spec_l9Draw.j0 kq a1 t2 x11_3 s0_0 t3 t4=some (r1,r2,r3,r4,r5,r6,r7,r8,r9,r10))∧Aside0 (kq≤k)∧Aside0 (wc.heap[gb1]? = some (.cells #[.int .i64 0,.string ⟨#[]⟩,.string ⟨#[]⟩,.int .i64 0,.string ⟨#[]⟩,(.slice none 0 0),(.slice none 0 0),.int .i64 0] 56 (0,0)))∧Aside0 (IsS77 w0 wc g s0_0 t3 t4)∧Aside0 (KeepBut w wc g none)∧Aside0 (Below w0.heap.size w0 wc))
 case first =>
  have H:=HC4.out
  clear HC4
  by_cases c7:t2=0
  · rw [if_pos c7] at H
    have c7b0:=zbt c7
    have c7b1:=zqn c7
    clear c7
    ((rw [c7b0]))
    have H':=zk H
    clear H
    go_wp2
    go_meet
    case rel=>exact ⟨_,((t2 == 0)),za33,H',⟨by (omega)⟩,⟨za3 BK1.out⟩,⟨za13⟩,⟨za12⟩,⟨za18⟩⟩
  rw [if_neg c7] at H
  have c7b0:=zbn c7
  have c7b1:=zqt c7
  ((rw [c7b0]))
  by_cases c8:t2=1
  · rw [if_pos c8] at H
    have c8b0:=zbt c8
    have c8b1:=zqn c8
    clear c8
    have H':=zk H
    clear H
    go_wp2
    go_meet
    case rel=>exact ⟨_,((t2 == 1)),za33,H',⟨by (omega)⟩,⟨za3 BK1.out⟩,⟨za13⟩,⟨za12⟩,⟨za18⟩⟩
  · rw [if_neg c8] at H
    have c8b0:=zbn c8
    have c8b1:=zqt c8
    have H':=zk H
    clear H
    go_wp2
    go_meet
    case rel=>exact ⟨_,((t2 == 2)),za33,H',⟨by (omega)⟩,⟨za3 BK1.out⟩,⟨za13⟩,⟨za12⟩,⟨za18⟩⟩
 case rest =>
  clear HC4
  obtain ⟨kq,x11_3,rfl,HA,HJ3,BK1,HI0,HK,HB⟩:=hcut
  cases kq with
  | zero=>exact absurd HA.out (by simp [spec_l9Draw.j0])
  | succ kj3 =>
   have H:=HA.out
   clear HA
   simp only [spec_l9Draw.j0] at H
   by_cases c9:x11_3=true
   · subst c9
     rw [if_pos rfl] at H
     try dsimp only at H
     obtain ⟨⟨t5,t6,t7⟩,A10,H⟩:=zO H
     try dsimp only at H
     obtain ⟨⟨t8,t9,t10⟩,A11,H⟩:=zO H
     try dsimp only at H
     simp only [Option.some.injEq,Prod.mk.injEq] at H
     obtain ⟨rfl,rfl,rfl,rfl,rfl,rfl,rfl,rfl,rfl,rfl⟩:=H
     go_wp2_with (first|((with_reducible refine gate_callee (f:=87) rfl ?_);refine zg (some 17) Tryz.func87 #[.pointer (some ⟨g,0,none⟩),.int .i64 4,.string a1] rfl za11 ?_;(with_reducible refine (spec_l8Draw.calls kj3 g s0_0 t3 t4 4 a1 t5 t6 t7 w0 _ za13 za18 A10.out).mono ?_);rintro e w12 ⟨rfl,hi,hb,hk⟩;refine ⟨_,rfl,?_⟩;replace BK1:=yq hk BK1 NB1_0;replace HK:=yK HK hk;replace HB:=zk hb;replace HI0:=zk hi;(try clear hb hk hi))|((with_reducible refine gate_callee (f:=87) rfl ?_);refine zg (some 21) Tryz.func87 #[.pointer (some ⟨g,0,none⟩),.int .i64 4,.string a1] rfl za11 ?_;(with_reducible refine (spec_l8Draw.calls kj3 g s0_0 t6 t7 4 a1 t8 t9 t10 w0 _ za13 za18 A11.out).mono ?_);rintro e w13 ⟨rfl,hi,hb,hk⟩;refine ⟨_,rfl,?_⟩;replace BK1:=yq hk BK1 NB1_0;replace HK:=yK HK hk;replace HB:=zk hb;replace HI0:=zk hi;(try clear hb hk hi);have hnb14:=NB1_0.out;have hnc14:=NB0_1.out;obtain ⟨hcz15_0,hcz15_1,hcz15_2,hcz15_3,hcz15_4,hcz15_5,hcz15_6,hcz15_7,hfz15_0,hfz15_1,hfz15_2,hfz15_3,hfz15_4,hfz15_5,hfz15_6,hfz15_7⟩:=blk8 BK1.out))
     refine bodyPost_ret (results_cell_row rfl _ _ gb1 56 #[.int .i64 1,.string t5,.string t8,.int .i64 0,.string ⟨#[]⟩,.slice none 0 0,.slice none 0 0,.int .i64 0] (0,0) _ rfl (zpu BK1.out) Tryz.underlying56 rfl (by kernel_rfl)) rfl ?_
     exact ⟨_,_,by (rfl),za64,za64,za13,za18,za12⟩
   replace c9:=Bool.eq_false_iff.mpr c9
   subst c9
   rw [if_neg zff] at H
   try dsimp only at H
   by_cases c16:t2=3
   · rw [if_pos c16] at H
     have c16b0:=zbt c16
     have c16b1:=zqn c16
     clear c16
     obtain ⟨⟨t11,t12,t13⟩,A17,H⟩:=zO H
     try dsimp only at H
     obtain ⟨⟨t14,t15,t16⟩,A18,H⟩:=zO H
     try dsimp only at H
     simp only [Option.some.injEq,Prod.mk.injEq] at H
     obtain ⟨rfl,rfl,rfl,rfl,rfl,rfl,rfl,rfl,rfl,rfl⟩:=H
     go_wp2_with (first|((with_reducible refine gate_callee (f:=87) rfl ?_);refine zg (some 27) Tryz.func87 #[.pointer (some ⟨g,0,none⟩),.int .i64 3,.string a1] rfl za11 ?_;(with_reducible refine (spec_l8Draw.calls kj3 g s0_0 t3 t4 3 a1 t11 t12 t13 w0 _ za13 za18 A17.out).mono ?_);rintro e w19 ⟨rfl,hi,hb,hk⟩;refine ⟨_,rfl,?_⟩;replace BK1:=yq hk BK1 NB1_0;replace HK:=yK HK hk;replace HB:=zk hb;replace HI0:=zk hi;(try clear hb hk hi))|((with_reducible refine gate_callee (f:=87) rfl ?_);refine zg (some 31) Tryz.func87 #[.pointer (some ⟨g,0,none⟩),.int .i64 3,.string a1] rfl za11 ?_;(with_reducible refine (spec_l8Draw.calls kj3 g s0_0 t12 t13 3 a1 t14 t15 t16 w0 _ za13 za18 A18.out).mono ?_);rintro e w20 ⟨rfl,hi,hb,hk⟩;refine ⟨_,rfl,?_⟩;replace BK1:=yq hk BK1 NB1_0;replace HK:=yK HK hk;replace HB:=zk hb;replace HI0:=zk hi;(try clear hb hk hi);have hnb21:=NB1_0.out;have hnc21:=NB0_1.out;obtain ⟨hcz22_0,hcz22_1,hcz22_2,hcz22_3,hcz22_4,hcz22_5,hcz22_6,hcz22_7,hfz22_0,hfz22_1,hfz22_2,hfz22_3,hfz22_4,hfz22_5,hfz22_6,hfz22_7⟩:=blk8 BK1.out))
     refine bodyPost_ret (results_cell_row rfl _ _ gb1 56 #[.int .i64 2,.string t11,.string t14,.int .i64 0,.string ⟨#[]⟩,.slice none 0 0,.slice none 0 0,.int .i64 0] (0,0) _ rfl (zpu BK1.out) Tryz.underlying56 rfl (by kernel_rfl)) rfl ?_
     exact ⟨_,_,by (rfl),za64,za64,za13,za18,za12⟩
   · rw [if_neg c16] at H
     have c16b0:=zbn c16
     have c16b1:=zqt c16
     have HC23:=zk H
     clear H
     go_upto_if 33 with (fail)
     go_cut [33] (fun v33 wc=>∃ (kq:Nat) (x33_22:Bool),v33 = .bool x33_22∧Aside0 (spec_l9Draw.j1 kq a1 t2 x33_22 s0_0 t3 t4=some (r1,r2,r3,r4,r5,r6,r7,r8,r9,r10))∧Aside0 (kq≤kj3)∧Aside0 (wc.heap[gb1]? = some (.cells #[.int .i64 0,.string ⟨#[]⟩,.string ⟨#[]⟩,.int .i64 0,.string ⟨#[]⟩,(.slice none 0 0),(.slice none 0 0),.int .i64 0] 56 (0,0)))∧Aside0 (IsS77 w0 wc g s0_0 t3 t4)∧Aside0 (KeepBut w wc g none)∧Aside0 (Below w0.heap.size w0 wc))
     case first =>
      have H:=HC23.out
      clear HC23
      by_cases c24:t2=4
      · rw [if_pos c24] at H
        have c24b0:=zbt c24
        have c24b1:=zqn c24
        clear c24
        ((rw [c24b0]))
        have H':=zk H
        clear H
        go_wp2
        go_meet
        case rel=>exact ⟨_,((t2 == 4)),za33,H',⟨by have:=HJ3.out;(omega)⟩,⟨za3 BK1.out⟩,⟨za13⟩,⟨za12⟩,⟨za18⟩⟩
      · rw [if_neg c24] at H
        have c24b0:=zbn c24
        have c24b1:=zqt c24
        ((rw [c24b0]))
        have H':=zk H
        clear H
        go_wp2
        go_meet
        case rel=>exact ⟨_,((t2 == 5)),za33,H',⟨by have:=HJ3.out;(omega)⟩,⟨za3 BK1.out⟩,⟨za13⟩,⟨za12⟩,⟨za18⟩⟩
     case rest =>
      clear HC23
      try clear c16
      try clear c16b0
      try clear c16b1
      obtain ⟨kq,x33_22,rfl,HA,HJ22,BK1,HI0,HK,HB⟩:=hcut
      cases kq with
      | zero=>exact absurd HA.out (by simp [spec_l9Draw.j1])
      | succ kj22 =>
       have H:=HA.out
       clear HA
       simp only [spec_l9Draw.j1] at H
       by_cases c25:x33_22=true
       subst c25
       rw [if_pos rfl] at H
       try dsimp only at H
       by_cases c26:0≤1
       rw [if_pos c26] at H
       have c26b0:=eq_true c26
       have c26b1:=zdle c26
       clear c26
       by_cases c27:1≤(a1.size:Int)
       · rw [if_pos c27] at H
         have c27b0:=eq_true c27
         have c27b1:=zdle c27
         clear c27
         obtain ⟨⟨t17,t18,t19,t22,t23⟩,A28,H⟩:=zO H
         try dsimp only at H
         simp only [Option.some.injEq,Prod.mk.injEq] at H
         obtain ⟨rfl,rfl,rfl,rfl,rfl,rfl,rfl,rfl,rfl,rfl⟩:=H
         try go_wp2
         replace BK1:=zk (blk_drew BK1.out)
         replace HI0:=zk (IsS77.drew HI0.out)
         replace HK:=zk (keep_drew HK.out)
         replace HB:=zk (below_drew1 HB.out)
         refine start_ (n:=6) (S:=fun w'=>True) (ds:=[]) #[false,false,false,false,false,false] (by kernel_rfl) rfl rfl trivial (fun hHeld=>?_)
         generalize wc.drew=w29 at BK1 HI0 HK HB hHeld ⊢
         refine zyk 0 (some 36) ?_
         refine zyk 1 (some 37) ?_
         refine zyk 2 (some 38) ?_
         refine one_ (i:=3) (N:=some 39) #[true,true,true,true,false,false] rfl rfl (by kernel_rfl) (by decide) (fun K hK=>?_)
         refine goes_ Tryz.func88 (by kernel_rfl) rfl #[.pointer (some ⟨g,0,none⟩),.int .i64 3] (by rfl) rfl rfl za11 ?_
         with_reducible refine (spec_l3Draw.calls kj22 g s0_0 t3 t4 3 t17 t18 t19 t22 t23 w0 _ za13 za18 A28.out).mono ?_
         rintro e w30 ⟨v20,rfl,ho0,hi,hb,hk⟩
         refine ⟨_,rfl,?_⟩
         have HO21:=zk (Kd.N_lower (Kd.N_mono (ok':=fun k_=>(w.heap.size≤k_)∧k_ ≠ gb1∧k_ ≠ g) ho0 (fun k_ hk_=>⟨(Nat.le_trans (keep_size (w:=w) (g:=g) (row:=none) za12) hk_),(zF BK1.out k_ hk_),(IsS77.fresh za13 k_ hk_)⟩)) (keep_size (w:=w) (g:=g) (row:=none) za12))
         replace HB:=zk hb
         replace BK1:=yq hk BK1 NB1_0
         replace HK:=yK HK hk
         replace HI0:=zk hi
         (try clear hb)
         (try clear hb2)
         (try clear hk)
         (try clear hi)
         (try clear ho0)
         obtain ⟨Ao31,co31,eo31⟩:=Kd.N_slice HO21.out
         ((subst eo31))
         refine hK.out _ _ trivial (fun hHeld=>?_)
         clear hK K
         refine zno (some 39) ?_
         refine zyk 4 (some 40) ?_
         refine one_ (i:=5) (N:=none) #[true,true,true,true,true,true] rfl rfl (by kernel_rfl) (by decide) (fun K hK=>?_)
         have hs32:w30.cell? ⟨gb1,0,none⟩=some (.int .i64 0):=(blk_cell BK1.out 0).trans rfl
         have hfs32:=blk_frozen BK1.out 0
         have hs33:w30.cell? ⟨gb1,1,none⟩=some (.string ⟨#[]⟩):=(blk_cell BK1.out 1).trans rfl
         have hfs33:=blk_frozen BK1.out 1
         have hs34:w30.cell? ⟨gb1,2,none⟩=some (.string ⟨#[]⟩):=(blk_cell BK1.out 2).trans rfl
         have hfs34:=blk_frozen BK1.out 2
         have hs35:w30.cell? ⟨gb1,3,none⟩=some (.int .i64 0):=(blk_cell BK1.out 3).trans rfl
         have hfs35:=blk_frozen BK1.out 3
         have hs36:w30.cell? ⟨gb1,4,none⟩=some (.string ⟨#[]⟩):=(blk_cell BK1.out 4).trans rfl
         have hfs36:=blk_frozen BK1.out 4
         have hs37:w30.cell? ⟨gb1,5,none⟩=some (.slice none 0 0):=(blk_cell BK1.out 5).trans rfl
         have hfs37:=blk_frozen BK1.out 5
         have hs38:w30.cell? ⟨gb1,6,none⟩=some (.slice none 0 0):=(blk_cell BK1.out 6).trans rfl
         have hfs38:=blk_frozen BK1.out 6
         have hs39:w30.cell? ⟨gb1,7,none⟩=some (.int .i64 0):=(blk_cell BK1.out 7).trans rfl
         have hfs39:=blk_frozen BK1.out 7
         refine skip_ (w1:=?_) (by rfl) rfl ?_ ?_
         rotate_left
         · go_simp
           rfl
         refine hK.out _ _ trivial (fun hHeld=>?_)
         clear hK K
         refine done_ (by kernel_rfl) ?_
         try go_wp2
         refine bodyPost_ret (results_cell_row rfl _ _ gb1 56 #[.int .i64 3,.string (a1.extract 0 1),.string ⟨#[]⟩,.int .i64 t17,.string t18,.slice Ao31 t19.length co31,.slice none 0 0,.int .i64 0] (0,0) _ rfl (zpu BK1.out) Tryz.underlying56 rfl (by kernel_rfl)) rfl ?_
         exact ⟨_,_,by (rfl),by (with_reducible repeat ((apply Kd.N_alloc)));exact Kd.N_mono (zfN (zfN (zfN (zfN (zfN (zfN (zfN (zfN (Kd.N_mono HO21.out (fun k_ hk=>(⟨hk,hk.2.1⟩:_∧k_ ≠ gb1))))))))))) (fun _ hk=>⟨hk.1.1,(by simp [Value.ownBlock])⟩),za64,za13,za18,za12⟩
       · rw [if_neg c27] at H
         exact absurd H (by simp)
       · rw [if_neg c26] at H
         exact absurd H (by simp)
       replace c25:=Bool.eq_false_iff.mpr c25
       subst c25
       rw [if_neg zff] at H
       try dsimp only at H
       by_cases c40:t2=6
       rw [if_pos c40] at H
       have c40b0:=zbt c40
       have c40b1:=zqn c40
       clear c40
       obtain ⟨ji41,hji41⟩:∃ j_:Int,(wrap64 ((a1.size:Int) - 1))=j_:=⟨_,rfl⟩
       replace H:(if 0≤(ji41) then (if (ji41)≤(a1.size:Int) then ((spec_l3Draw.f kj22 s0_0 t3 t4 3).bind fun bt24=>(some (4,a1.extract ((ji41):Int).toNat a1.size,(⟨#[]⟩:ByteArray),bt24.1,bt24.2.1,bt24.2.2.1,([]:List Int),0,bt24.2.2.2.1,bt24.2.2.2.2))) else (none)) else (none))=some (r1,r2,r3,r4,r5,r6,r7,r8,r9,r10):=by ((rw [hji41] at H;exact H))
       have hji41w:(IntKind.i64.wrap ((a1.size:Int) - 1))=ji41:=(i64_w _).trans hji41
       by_cases c42:0≤(ji41)
       rw [if_pos c42] at H
       have c42b0:=eq_true c42
       have c42b1:=zdle c42
       clear c42
       by_cases c43:(ji41)≤(a1.size:Int)
       · rw [if_pos c43] at H
         have c43b0:=eq_true c43
         have c43b1:=zdle c43
         clear c43
         obtain ⟨⟨t24,t25,t26,t29,t30⟩,A44,H⟩:=zO H
         try dsimp only at H
         simp only [Option.some.injEq,Prod.mk.injEq] at H
         obtain ⟨rfl,rfl,rfl,rfl,rfl,rfl,rfl,rfl,rfl,rfl⟩:=H
         try go_wp2
         replace BK1:=zk (blk_drew BK1.out)
         replace HI0:=zk (IsS77.drew HI0.out)
         replace HK:=zk (keep_drew HK.out)
         replace HB:=zk (below_drew1 HB.out)
         refine start_ (n:=9) (S:=fun w'=>True) (ds:=[]) #[false,false,false,false,false,false,false,false,false] (by kernel_rfl) rfl rfl trivial (fun hHeld=>?_);refine with_tabW spec_l9Draw.tab14 spec_l9Draw.bits14 (fun HT_ HW_=>?_)
         generalize wc.drew=w45 at BK1 HI0 HK HB hHeld ⊢
         refine zy 0 (some 43) HT_.out ?_
         refine zy 1 (some 44) HT_.out ?_
         refine zy 2 (some 45) HT_.out ?_
         refine zy 3 (some 46) HT_.out ?_
         refine zy 4 (some 47) HT_.out ?_
         refine zy 5 (some 48) HT_.out ?_
         refine zon 6 (some 49) HT_.out (fun K hK=>?_)
         refine goes_ Tryz.func88 (by kernel_rfl) rfl #[.pointer (some ⟨g,0,none⟩),.int .i64 3] (by rfl) rfl rfl za11 ?_
         with_reducible refine (spec_l3Draw.calls kj22 g s0_0 t3 t4 3 t24 t25 t26 t29 t30 w0 _ za13 za18 A44.out).mono ?_
         rintro e w46 ⟨v27,rfl,ho0,hi,hb,hk⟩
         refine ⟨_,rfl,?_⟩
         have HO28:=zk (Kd.N_lower (Kd.N_mono (ok':=fun k_=>(w.heap.size≤k_)∧k_ ≠ gb1∧k_ ≠ g) ho0 (fun k_ hk_=>⟨(Nat.le_trans (keep_size (w:=w) (g:=g) (row:=none) za12) hk_),(zF BK1.out k_ hk_),(IsS77.fresh za13 k_ hk_)⟩)) (keep_size (w:=w) (g:=g) (row:=none) za12))
         replace HB:=zk hb
         replace BK1:=yq hk BK1 NB1_0
         replace HK:=yK HK hk
         replace HI0:=zk hi
         (try clear hb)
         (try clear hb2)
         (try clear hk)
         (try clear hi)
         (try clear ho0)
         obtain ⟨Ao47,co47,eo47⟩:=Kd.N_slice HO28.out
         ((subst eo47))
         refine hK.out _ _ trivial (fun hHeld=>?_)
         clear hK K
         refine zno (some 49) ?_
         refine zy 7 (some 50) HT_.out ?_
         refine zon 8 none HT_.out (fun K hK=>?_)
         have hs48:w46.cell? ⟨gb1,0,none⟩=some (.int .i64 0):=(blk_cell BK1.out 0).trans rfl
         have hfs48:=blk_frozen BK1.out 0
         have hs49:w46.cell? ⟨gb1,1,none⟩=some (.string ⟨#[]⟩):=(blk_cell BK1.out 1).trans rfl
         have hfs49:=blk_frozen BK1.out 1
         have hs50:w46.cell? ⟨gb1,2,none⟩=some (.string ⟨#[]⟩):=(blk_cell BK1.out 2).trans rfl
         have hfs50:=blk_frozen BK1.out 2
         have hs51:w46.cell? ⟨gb1,3,none⟩=some (.int .i64 0):=(blk_cell BK1.out 3).trans rfl
         have hfs51:=blk_frozen BK1.out 3
         have hs52:w46.cell? ⟨gb1,4,none⟩=some (.string ⟨#[]⟩):=(blk_cell BK1.out 4).trans rfl
         have hfs52:=blk_frozen BK1.out 4
         have hs53:w46.cell? ⟨gb1,5,none⟩=some (.slice none 0 0):=(blk_cell BK1.out 5).trans rfl
         have hfs53:=blk_frozen BK1.out 5
         have hs54:w46.cell? ⟨gb1,6,none⟩=some (.slice none 0 0):=(blk_cell BK1.out 6).trans rfl
         have hfs54:=blk_frozen BK1.out 6
         have hs55:w46.cell? ⟨gb1,7,none⟩=some (.int .i64 0):=(blk_cell BK1.out 7).trans rfl
         have hfs55:=blk_frozen BK1.out 7
         refine skip_ (w1:=?_) (by rfl) rfl ?_ ?_
         rotate_left
         · go_simp
           rfl
         refine hK.out _ _ trivial (fun hHeld=>?_)
         clear hK K
         refine done_ (done_of HT_.out (by kernel_rfl)) ?_
         try go_wp2
         refine bodyPost_ret (results_cell_row rfl _ _ gb1 56 #[.int .i64 4,.string (a1.extract ((ji41):Int).toNat a1.size),.string ⟨#[]⟩,.int .i64 t24,.string t25,.slice Ao47 t26.length co47,.slice none 0 0,.int .i64 0] (0,0) _ rfl (zpu BK1.out) Tryz.underlying56 rfl (by kernel_rfl)) rfl ?_
         exact ⟨_,_,by (rfl),by (with_reducible repeat ((apply Kd.N_alloc)));exact Kd.N_mono (zfN (zfN (zfN (zfN (zfN (zfN (zfN (zfN (Kd.N_mono HO28.out (fun k_ hk=>(⟨hk,hk.2.1⟩:_∧k_ ≠ gb1))))))))))) (fun _ hk=>⟨hk.1.1,(by simp [Value.ownBlock])⟩),za64,za13,za18,za12⟩
       · rw [if_neg c43] at H
         exact absurd H (by simp)
       · rw [if_neg c42] at H
         exact absurd H (by simp)
       · rw [if_neg c40] at H
         have c40b0:=zbn c40
         have c40b1:=zqt c40
         obtain ⟨y61031,hy61031⟩:∃ y_:List Int,y_=(([0,1,3,(-1)]:List Int)):=⟨_,rfl⟩
         replace H:((spec_l1PickInt.f s0_0 t3 t4 y61031).bind fun bt34=>(spec_l9Draw.l0 kj22 a1 0 s0_0 bt34.2.1 bt34.2.2 5 (⟨#[]⟩:ByteArray) (⟨#[]⟩:ByteArray) 0 (⟨#[]⟩:ByteArray) ([]:List Int) bt34.1))=some (r1,r2,r3,r4,r5,r6,r7,r8,r9,r10):=by ((rw [hy61031];with_reducible exact H))
         have Ny31:=zk hy61031
         clear hy61031
         obtain ⟨⟨t34,t35,t36⟩,A56,H⟩:=zO H
         try dsimp only at H
         have H':=zk H
         clear H
         go_wp2_with (first|((with_reducible refine gate_dst (N:=52) rfl ?_);refine Kd.R_lit (Kd.int .i64) _ 3 ?hg (N:=52) ?hd (xs:=([0,1,3,(-1)]:List Int)) (inner:=[.int .i64 0,.int .i64 1,.int .i64 3,.int .i64 (-1)]) (ok:=fun _=>True) (okp:=fun _=>True) ?hr ?hp (fun _ hk=>hk) trivial (Below.refl _ _) (Nat.le_refl _) (by simp) ?_;(case hd=>rfl);(case hg=>rfl);(case hr=>((go_simp;done)));(case hp=>exact (Reps.one (show Kd.M (Kd.int .i64) _ _ _ 0 [.int .i64 0] from rfl) (Reps.one (show Kd.M (Kd.int .i64) _ _ _ 1 [.int .i64 1] from rfl) (Reps.one (show Kd.M (Kd.int .i64) _ _ _ 3 [.int .i64 3] from rfl) (Reps.one (show Kd.M (Kd.int .i64) _ _ _ (-1) [.int .i64 (-1)] from rfl) (Reps.none _ _))))));intro v32 w57 ho58 hb hg_ hnew_;clear hg_ hnew_;((rw [← Ny31.out] at ho58));have HO33:=zk (Kd.R_lower (Kd.R_newM (M:=fun k_=>(w.heap.size≤k_)) ho58 (keep_size (w:=w) (g:=g) (row:=none) za12) (fun k_ h_=>h_)) (keep_size (w:=w) (g:=g) (row:=none) za12));replace BK1:=yb BK1 hb;replace HB:=zk (below_step za18 hb);replace HI0:=zk (IsS77.below za13 hb);replace HK:=yk HK hb;clear hb ho58;obtain ⟨Ao59,co59,eo59⟩:=Kd.R_slice HO33.out;subst eo59)|((with_reducible refine gate_callee (f:=44) rfl ?_);refine zg (some 53) Tryz.func44 #[.pointer (some ⟨g,0,none⟩),.slice Ao59 y61031.length co59] rfl za11 ?_;(with_reducible refine (spec_l1PickInt.calls g s0_0 t3 t4 _ _ y61031 t34 t35 t36 w0 _ za13 za18 ?side3 ?side4 ?side5 A56.out).mono ?_);(case side3=>repeat ((exact (Kd.R_reads' HO33.out).2.2)));(case side4=>exact (Kd.R_reads' HO33.out).2.1);(case side5=>exact far_slice (IsS77.own_ne HI0.out HO33.out (by decide)));rintro e w60 ⟨rfl,hi,hb,hk⟩;refine ⟨_,rfl,?_⟩;replace BK1:=yq hk BK1 NB1_0;replace HO33:=zk (Kd.R_mono (Kd.R_keep (IsS77.apart (show IsS77 w0 _ g s0_0 t3 t4 from za13) (za5 HO33.out) (by decide)) hk (fun _ h=>h.2)) (fun _ h=>h.1));replace HK:=yK HK hk;replace HB:=zk hb;replace HI0:=zk hi;(try clear hb hk hi))|((with_reducible refine gate_dst (N:=7) rfl ?_);refine zE (cs:=#[.int .i64 0,.string ⟨#[]⟩,.string ⟨#[]⟩,.int .i64 0,.string ⟨#[]⟩,.slice none 0 0,.slice none 0 0,.int .i64 0]) (t:=56) ?_;intro gb37 hg w61 hbox hb;replace HO33:=zk (Kd.R_below (za5 HO33.out) hb);replace HB:=zk (below_step za18 hb);have BK37:=zk hbox;have GW37:=zk ((by rw [hg];exact (keep_size (w:=w) (g:=g) (row:=none) za12):w.heap.size≤gb37));have GE37:=zk ((Nat.le_trans HW0.out (by rw [hg];exact (keep_size (w:=w) (g:=g) (row:=none) za12):w.heap.size≤gb37):w0.heap.size≤gb37));have NB1_37:=yn hg BK1;have NB37_1:=yp hg BK1;have NB0_37:=zk (zm hg (IsS77.lt (show IsS77 w0 _ g s0_0 t35 t36 from za13)));have NB37_0:=zk (zM hg (IsS77.lt (show IsS77 w0 _ g s0_0 t35 t36 from za13)));replace BK1:=yb BK1 hb;replace HI0:=zk (IsS77.below za13 hb);replace HK:=yk HK hb;clear hb hbox hg;have hnb62:=NB37_1.out;have hnc62:=NB1_37.out;have hnb63:=NB37_0.out;have hnc63:=NB0_37.out;obtain ⟨hcz64_0,hcz64_1,hcz64_2,hcz64_3,hcz64_4,hcz64_5,hcz64_6,hcz64_7,hfz64_0,hfz64_1,hfz64_2,hfz64_3,hfz64_4,hfz64_5,hfz64_6,hfz64_7⟩:=blk8 BK37.out))
         try simp only [Act.put,zt,zv,zu]
         go_loopg [8] kj22 (fun kq v8 w'=>∃ (x8_3:Int) (x1001_3:Int) (x1002_3:Int) (x61038006_3:List Int) (u61038006:Value),v8 = .int .i64 x8_3∧Aside0 (spec_l9Draw.l0 kq a1 x8_3 s0_0 x1001_3 x1002_3 5 (⟨#[]⟩:ByteArray) (⟨#[]⟩:ByteArray) 0 (⟨#[]⟩:ByteArray) x61038006_3 t34=some (r1,r2,r3,r4,r5,r6,r7,r8,r9,r10))∧Aside0 (kq≤kj22)∧Aside0 (Kd.R (Kd.int .i64) 3 w' w.heap.size (fun k_=>(w.heap.size≤k_)) u61038006 x61038006_3)∧Aside0 (w'.heap[gb1]? = some (.cells #[.int .i64 0,.string ⟨#[]⟩,.string ⟨#[]⟩,.int .i64 0,.string ⟨#[]⟩,(.slice none 0 0),(.slice none 0 0),.int .i64 0] 56 (0,0)))∧Aside0 (w'.heap[gb37]? = some (.cells #[.int .i64 5,.string ⟨#[]⟩,.string ⟨#[]⟩,.int .i64 0,.string ⟨#[]⟩,(.slice none 0 0),u61038006,.int .i64 t34] 56 (0,0)))∧Aside0 (IsS77 w0 w' g s0_0 x1001_3 x1002_3)∧Aside0 (KeepBut w w' g none)∧Aside0 (Below w0.heap.size w0 w'))
         case atStart=>exact ⟨(0),(t35),(t36),(([]:List Int)),(.slice none 0 0),za33,H',⟨Nat.le_refl _⟩,⟨za64⟩,⟨zpw BK1.out⟩,⟨zpu BK37.out⟩,⟨za40⟩,⟨za30⟩,⟨za44⟩⟩
         case round =>
          clear H'
          try clear c16
          try clear c16b0
          try clear c16b1
          try clear c40
          try clear c40b0
          try clear c40b1
          try clear hcz64_0
          try clear hcz64_1
          try clear hcz64_2
          try clear hcz64_3
          try clear hcz64_4
          try clear hcz64_5
          try clear hcz64_6
          try clear hcz64_7
          try clear hfz64_0
          try clear hfz64_1
          try clear hfz64_2
          try clear hfz64_3
          try clear hfz64_4
          try clear hfz64_5
          try clear hfz64_6
          try clear hfz64_7
          obtain ⟨x8_3,x1001_3,x1002_3,x61038006_3,u61038006,rfl,HA,HK3,HO_61038006,BK1,BK37,HI0,HK,HB⟩:=hrel
          cases gk with
          | zero=>exact absurd HA.out (by simp [spec_l9Draw.l0])
          | succ k3 =>
           have H:=HA.out
           clear HA
           simp only [spec_l9Draw.l0] at H
           by_cases c65:x8_3 < 3
           rw [if_pos c65] at H
           have c65b0:=zdl c65
           clear c65
           by_cases c66:0≤x8_3
           rw [if_pos c66] at H
           have c66b0:=zdle c66
           clear c66
           obtain ⟨t38,A68,H⟩:=zO H
           try dsimp only at H
           obtain ⟨t39,A69,H⟩:=zO H
           try dsimp only at H
           obtain ⟨y61040,hy61040⟩:∃ y_:List Int,y_=(([1,(-1),0,2]:List Int)):=⟨_,rfl⟩
           replace H:((spec_l1PickInt.f s0_0 x1001_3 x1002_3 y61040).bind fun bt43=>(if x61038006_3.length < 17592186044416 then (spec_l9Draw.l0 k3 a1 (wrap64 (x8_3+1)) s0_0 bt43.2.1 bt43.2.2 5 (⟨#[]⟩:ByteArray) (⟨#[]⟩:ByteArray) 0 (⟨#[]⟩:ByteArray) (x61038006_3 ++ [wrap64 (t39 * bt43.1)]) t34) else (none)))=some (r1,r2,r3,r4,r5,r6,r7,r8,r9,r10):=by ((rw [hy61040];with_reducible exact H))
           have Ny40:=zk hy61040
           clear hy61040
           obtain ⟨⟨t43,t44,t45⟩,A70,H⟩:=zO H
           try dsimp only at H
           by_cases c71:x61038006_3.length < 17592186044416
           ·rw [if_pos c71] at H
            have LMc71:=zk c71
            clear c71
            obtain ⟨y61046,hy61046⟩:∃ y_:List Int,y_=(x61038006_3 ++ [wrap64 (t39 * t43)]):=⟨_,rfl⟩
            replace H:(spec_l9Draw.l0 k3 a1 (wrap64 (x8_3+1)) s0_0 t44 t45 5 (⟨#[]⟩:ByteArray) (⟨#[]⟩:ByteArray) 0 (⟨#[]⟩:ByteArray) y61046 t34)=some (r1,r2,r3,r4,r5,r6,r7,r8,r9,r10):=by ((rw [hy61046];with_reducible exact H))
            have Ny46:=zk hy61046
            clear hy61046
            have H':=zk H
            clear H
            obtain ⟨Ao72,co72,eo72⟩:=Kd.R_slice HO_61038006.out
            subst eo72
            try go_wp2
            replace HO_61038006:=zk (Kd.R_drew HO_61038006.out)
            replace BK1:=zk (blk_drew BK1.out)
            replace BK37:=zk (blk_drew BK37.out)
            replace HI0:=zk (IsS77.drew HI0.out)
            replace HK:=zk (keep_drew HK.out)
            replace HB:=zk (below_drew1 HB.out)
            have p67:0≤(x8_3:Int):=of_decide_eq_true za25
            have q67:x8_3 < (3:Int):=of_decide_eq_true za25
            have hx67:=bt_at (⟨#[88,89,90]⟩:ByteArray) x8_3
            replace p67:=eq_true p67
            replace q67:=eq_true q67
            refine start_ (n:=16) (S:=fun w'=>w'.cell? ⟨gb37,0,none⟩=some (.int .i64 5)∧w'.cell? ⟨gb37,1,none⟩=some (.string ⟨#[]⟩)∧w'.cell? ⟨gb37,2,none⟩=some (.string ⟨#[]⟩)∧w'.cell? ⟨gb37,3,none⟩=some (.int .i64 0)∧w'.cell? ⟨gb37,4,none⟩=some (.string ⟨#[]⟩)∧w'.cell? ⟨gb37,5,none⟩=some (.slice none 0 0)∧w'.cell? ⟨gb37,6,none⟩=some (.slice Ao72 x61038006_3.length co72)∧w'.cell? ⟨gb37,7,none⟩=some (.int .i64 t34)) (ds:=[15]) #[false,false,false,false,false,false,false,false,false,false,false,false,false,false,false,false] (by kernel_rfl) rfl rfl ⟨(blk_cell BK37.out 0).trans rfl,(blk_cell BK37.out 1).trans rfl,(blk_cell BK37.out 2).trans rfl,(blk_cell BK37.out 3).trans rfl,(blk_cell BK37.out 4).trans rfl,(blk_cell BK37.out 5).trans rfl,(blk_cell BK37.out 6).trans rfl,(blk_cell BK37.out 7).trans rfl⟩ (fun hHeld=>?_);refine with_tabW spec_l9Draw.tab19 spec_l9Draw.bits19 (fun HT_ HW_=>?_)
            generalize wr.drew=w73 at HO_61038006 BK1 BK37 HI0 HK HB hHeld ⊢
            refine zy 0 (some 59) HT_.out ?_
            refine zy 2 (some 61) HT_.out ?_
            refine zy 3 (some 62) HT_.out ?_
            refine zy 8 (some 67) HT_.out ?_
            refine ztk 1 (some 60) HT_.out HW_.out hHeld ?_
            refine ztk 4 (some 63) HT_.out HW_.out hHeld ?_
            refine join_ (σ:=Value) 6 #[true,true,true,true,true,true,true,true,true,true,false,false,false,false,false,false] (fun s_ => [(64,.int .i64 t38),(66,.int .i64 t39),(68,s_),(65,.bool (decide (t38 > 0)))]) (fun s_ w'=>(w'.cell? ⟨gb37,0,none⟩=some (.int .i64 5)∧w'.cell? ⟨gb37,1,none⟩=some (.string ⟨#[]⟩)∧w'.cell? ⟨gb37,2,none⟩=some (.string ⟨#[]⟩)∧w'.cell? ⟨gb37,3,none⟩=some (.int .i64 0)∧w'.cell? ⟨gb37,4,none⟩=some (.string ⟨#[]⟩)∧w'.cell? ⟨gb37,5,none⟩=some (.slice none 0 0)∧w'.cell? ⟨gb37,6,none⟩=some (.slice Ao72 x61038006_3.length co72)∧w'.cell? ⟨gb37,7,none⟩=some (.int .i64 t34))∧(Kd.R (Kd.int .i64) 3 w' w.heap.size (fun k_=>(w.heap.size≤k_)∧some k_ ≠ (.slice Ao72 x61038006_3.length co72:Value).ownBlock) s_ y61040)∧(Kd.R (Kd.int .i64) 3 w' w.heap.size (fun k_=>(w.heap.size≤k_)∧some k_ ≠ (s_:Value).ownBlock) (.slice Ao72 x61038006_3.length co72) x61038006_3)∧(w'.heap[gb1]? = some (.cells #[.int .i64 0,.string ⟨#[]⟩,.string ⟨#[]⟩,.int .i64 0,.string ⟨#[]⟩,.slice none 0 0,.slice none 0 0,.int .i64 0] 56 (0,0)))∧(w'.heap[gb37]? = some (.cells #[.int .i64 5,.string ⟨#[]⟩,.string ⟨#[]⟩,.int .i64 0,.string ⟨#[]⟩,.slice none 0 0,.slice Ao72 x61038006_3.length co72,.int .i64 t34] 56 (0,0)))∧(IsS77 w0 w' g s0_0 x1001_3 x1002_3)∧(KeepBut w w' g none)∧(Below w0.heap.size w0 w')) ?_ ?_
            rotate_left
            ·intro hCont
             refine two_ (i:=5) (j:=9) (Ni:=some 64) (Nj:=some 68) #[true,true,true,true,true,true,false,false,true,false,false,false,false,false,false,false] #[true,true,true,true,true,false,false,false,true,true,false,false,false,false,false,false] rfl rfl rfl rfl (two_of HT_.out (by kernel_rfl)) (by decide) (by decide) (fun K hK=>?_) (fun K hK=>?_)
             ·skip
              refine goes_ Tryz.func35 (by kernel_rfl) rfl #[.string a1,.int .u8 (bt (⟨#[88,89,90]⟩:ByteArray) x8_3)] (by rfl) rfl rfl za11 ?_
              with_reducible refine (spec_CountByte.calls k3 a1 (bt (⟨#[88,89,90]⟩:ByteArray) x8_3) t38 _ A68.out).mono ?_
              rintro e w' ⟨rfl,⟨nd,rfl⟩⟩
              refine ⟨_,rfl,?_⟩
              refine hK.out _ _ ⟨(blk_cell BK37.out 0).trans rfl,(blk_cell BK37.out 1).trans rfl,(blk_cell BK37.out 2).trans rfl,(blk_cell BK37.out 3).trans rfl,(blk_cell BK37.out 4).trans rfl,(blk_cell BK37.out 5).trans rfl,(blk_cell BK37.out 6).trans rfl,(blk_cell BK37.out 7).trans rfl⟩ (fun hHeld=>?_)
              clear hK K
              refine zno (some 64) ?_
              refine zy 6 (some 65) HT_.out ?_
              refine two_ (i:=7) (j:=9) (Ni:=some 66) (Nj:=some 68) #[true,true,true,true,true,true,true,true,true,false,false,false,false,false,false,false] #[true,true,true,true,true,true,true,false,true,true,false,false,false,false,false,false] rfl rfl rfl rfl (two_of HT_.out (by kernel_rfl)) (by decide) (by decide) (fun K hK=>?_) (fun K hK=>?_)
              ·skip
               refine goes_ Tryz.func89 (by kernel_rfl) rfl #[.bool (decide (t38 > 0))] (by rfl) rfl rfl za11 ?_
               with_reducible refine (spec_l1Bit.calls (decide (t38 > 0)) t39 _ A69.out).mono ?_
               rintro e w' ⟨rfl,⟨nd,rfl⟩⟩
               refine ⟨_,rfl,?_⟩
               refine hK.out _ _ ⟨(blk_cell BK37.out 0).trans rfl,(blk_cell BK37.out 1).trans rfl,(blk_cell BK37.out 2).trans rfl,(blk_cell BK37.out 3).trans rfl,(blk_cell BK37.out 4).trans rfl,(blk_cell BK37.out 5).trans rfl,(blk_cell BK37.out 6).trans rfl,(blk_cell BK37.out 7).trans rfl⟩ (fun hHeld=>?_)
               clear hK K
               refine zno (some 66) ?_
               refine zon 9 (some 68) HT_.out (fun K hK=>?_)
               refine Kd.R_lit_step (Kd.int .i64) _ 3 ?hg (N:=68) ?hd (xs:=([1,(-1),0,2]:List Int)) (inner:=[.int .i64 1,.int .i64 (-1),.int .i64 0,.int .i64 2]) (ok:=fun _=>True) (okp:=fun _=>True) ?hr ?hp (fun _ hk=>hk) trivial (Below.refl _ _) (Nat.le_refl _) (by simp) ?_;(case hd=>rfl);(case hg=>rfl);(case hr=>((go_simp;done)));(case hp=>exact (Reps.one (show Kd.M (Kd.int .i64) _ _ _ 1 [.int .i64 1] from rfl) (Reps.one (show Kd.M (Kd.int .i64) _ _ _ (-1) [.int .i64 (-1)] from rfl) (Reps.one (show Kd.M (Kd.int .i64) _ _ _ 0 [.int .i64 0] from rfl) (Reps.one (show Kd.M (Kd.int .i64) _ _ _ 2 [.int .i64 2] from rfl) (Reps.none _ _))))))
               intro v41 w74 ho75 hb hg_ hnew_
               clear hg_ hnew_
               ((rw [← Ny40.out] at ho75))
               have HO42:=zk (Kd.R_lower (Kd.R_new' (Kd.R_newM (M:=fun k_=>(w.heap.size≤k_)) ho75 (keep_size (w:=w) (g:=g) (row:=none) za30) (fun k_ h_=>h_)) (Kd.R_lt (za5 HO_61038006.out))) (keep_size (w:=w) (g:=g) (row:=none) za30))
               replace BK1:=yb BK1 hb
               replace BK37:=yb BK37 hb
               replace HB:=zk (below_step za44 hb)
               replace HO_61038006:=zk (Kd.R_elder' (za5 HO_61038006.out) (Kd.R_base ho75) hb)
               replace HI0:=zk (IsS77.below za40 hb)
               replace HK:=yk HK hb
               clear hb ho75
               refine hK.out _ _ ⟨(blk_cell BK37.out 0).trans rfl,(blk_cell BK37.out 1).trans rfl,(blk_cell BK37.out 2).trans rfl,(blk_cell BK37.out 3).trans rfl,(blk_cell BK37.out 4).trans rfl,(blk_cell BK37.out 5).trans rfl,(blk_cell BK37.out 6).trans rfl,(blk_cell BK37.out 7).trans rfl⟩ (fun hHeld=>?_)
               clear hK K
               refine zno (some 68) ?_
               exact norm_ za66 (hCont (v41) _ ⟨hHeld,za76,(za5 HO_61038006.out),(za3 BK1.out),(za3 BK37.out),za40,za30,za44⟩)
              ·skip
               refine Kd.R_lit_step (Kd.int .i64) _ 3 ?hg (N:=68) ?hd (xs:=([1,(-1),0,2]:List Int)) (inner:=[.int .i64 1,.int .i64 (-1),.int .i64 0,.int .i64 2]) (ok:=fun _=>True) (okp:=fun _=>True) ?hr ?hp (fun _ hk=>hk) trivial (Below.refl _ _) (Nat.le_refl _) (by simp) ?_;(case hd=>rfl);(case hg=>rfl);(case hr=>((go_simp;done)));(case hp=>exact (Reps.one (show Kd.M (Kd.int .i64) _ _ _ 1 [.int .i64 1] from rfl) (Reps.one (show Kd.M (Kd.int .i64) _ _ _ (-1) [.int .i64 (-1)] from rfl) (Reps.one (show Kd.M (Kd.int .i64) _ _ _ 0 [.int .i64 0] from rfl) (Reps.one (show Kd.M (Kd.int .i64) _ _ _ 2 [.int .i64 2] from rfl) (Reps.none _ _))))))
               intro v41 w74 ho75 hb hg_ hnew_
               clear hg_ hnew_
               ((rw [← Ny40.out] at ho75))
               have HO42:=zk (Kd.R_lower (Kd.R_new' (Kd.R_newM (M:=fun k_=>(w.heap.size≤k_)) ho75 (keep_size (w:=w) (g:=g) (row:=none) za30) (fun k_ h_=>h_)) (Kd.R_lt (za5 HO_61038006.out))) (keep_size (w:=w) (g:=g) (row:=none) za30))
               replace BK1:=yb BK1 hb
               replace BK37:=yb BK37 hb
               replace HB:=zk (below_step za44 hb)
               replace HO_61038006:=zk (Kd.R_elder' (za5 HO_61038006.out) (Kd.R_base ho75) hb)
               replace HI0:=zk (IsS77.below za40 hb)
               replace HK:=yk HK hb
               clear hb ho75
               refine hK.out _ _ ⟨(blk_cell BK37.out 0).trans rfl,(blk_cell BK37.out 1).trans rfl,(blk_cell BK37.out 2).trans rfl,(blk_cell BK37.out 3).trans rfl,(blk_cell BK37.out 4).trans rfl,(blk_cell BK37.out 5).trans rfl,(blk_cell BK37.out 6).trans rfl,(blk_cell BK37.out 7).trans rfl⟩ (fun hHeld=>?_)
               clear hK K
               refine zno (some 68) ?_
               refine zon 7 (some 66) HT_.out (fun K hK=>?_)
               refine goes_ Tryz.func89 (by kernel_rfl) rfl #[.bool (decide (t38 > 0))] (by rfl) rfl rfl za11 ?_
               with_reducible refine (spec_l1Bit.calls (decide (t38 > 0)) t39 _ A69.out).mono ?_
               rintro e w' ⟨rfl,⟨nd,rfl⟩⟩
               refine ⟨_,rfl,?_⟩
               refine hK.out _ _ ⟨(blk_cell BK37.out 0).trans rfl,(blk_cell BK37.out 1).trans rfl,(blk_cell BK37.out 2).trans rfl,(blk_cell BK37.out 3).trans rfl,(blk_cell BK37.out 4).trans rfl,(blk_cell BK37.out 5).trans rfl,(blk_cell BK37.out 6).trans rfl,(blk_cell BK37.out 7).trans rfl⟩ (fun hHeld=>?_)
               clear hK K
               refine zno (some 66) ?_
               exact norm_ za66 (hCont (v41) _ ⟨hHeld,za76,(za5 HO_61038006.out),(za3 BK1.out),(za3 BK37.out),za40,za30,za44⟩)
             ·skip
              refine Kd.R_lit_step (Kd.int .i64) _ 3 ?hg (N:=68) ?hd (xs:=([1,(-1),0,2]:List Int)) (inner:=[.int .i64 1,.int .i64 (-1),.int .i64 0,.int .i64 2]) (ok:=fun _=>True) (okp:=fun _=>True) ?hr ?hp (fun _ hk=>hk) trivial (Below.refl _ _) (Nat.le_refl _) (by simp) ?_;(case hd=>rfl);(case hg=>rfl);(case hr=>((go_simp;done)));(case hp=>exact (Reps.one (show Kd.M (Kd.int .i64) _ _ _ 1 [.int .i64 1] from rfl) (Reps.one (show Kd.M (Kd.int .i64) _ _ _ (-1) [.int .i64 (-1)] from rfl) (Reps.one (show Kd.M (Kd.int .i64) _ _ _ 0 [.int .i64 0] from rfl) (Reps.one (show Kd.M (Kd.int .i64) _ _ _ 2 [.int .i64 2] from rfl) (Reps.none _ _))))))
              intro v41 w74 ho75 hb hg_ hnew_
              clear hg_ hnew_
              ((rw [← Ny40.out] at ho75))
              have HO42:=zk (Kd.R_lower (Kd.R_new' (Kd.R_newM (M:=fun k_=>(w.heap.size≤k_)) ho75 (keep_size (w:=w) (g:=g) (row:=none) za30) (fun k_ h_=>h_)) (Kd.R_lt (za5 HO_61038006.out))) (keep_size (w:=w) (g:=g) (row:=none) za30))
              replace BK1:=yb BK1 hb
              replace BK37:=yb BK37 hb
              replace HB:=zk (below_step za44 hb)
              replace HO_61038006:=zk (Kd.R_elder' (za5 HO_61038006.out) (Kd.R_base ho75) hb)
              replace HI0:=zk (IsS77.below za40 hb)
              replace HK:=yk HK hb
              clear hb ho75
              refine hK.out _ _ ⟨(blk_cell BK37.out 0).trans rfl,(blk_cell BK37.out 1).trans rfl,(blk_cell BK37.out 2).trans rfl,(blk_cell BK37.out 3).trans rfl,(blk_cell BK37.out 4).trans rfl,(blk_cell BK37.out 5).trans rfl,(blk_cell BK37.out 6).trans rfl,(blk_cell BK37.out 7).trans rfl⟩ (fun hHeld=>?_)
              clear hK K
              refine zno (some 68) ?_
              refine zon 5 (some 64) HT_.out (fun K hK=>?_)
              refine goes_ Tryz.func35 (by kernel_rfl) rfl #[.string a1,.int .u8 (bt (⟨#[88,89,90]⟩:ByteArray) x8_3)] (by rfl) rfl rfl za11 ?_
              with_reducible refine (spec_CountByte.calls k3 a1 (bt (⟨#[88,89,90]⟩:ByteArray) x8_3) t38 _ A68.out).mono ?_
              rintro e w' ⟨rfl,⟨nd,rfl⟩⟩
              refine ⟨_,rfl,?_⟩
              refine hK.out _ _ ⟨(blk_cell BK37.out 0).trans rfl,(blk_cell BK37.out 1).trans rfl,(blk_cell BK37.out 2).trans rfl,(blk_cell BK37.out 3).trans rfl,(blk_cell BK37.out 4).trans rfl,(blk_cell BK37.out 5).trans rfl,(blk_cell BK37.out 6).trans rfl,(blk_cell BK37.out 7).trans rfl⟩ (fun hHeld=>?_)
              clear hK K
              refine zno (some 64) ?_
              refine zy 6 (some 65) HT_.out ?_
              refine zon 7 (some 66) HT_.out (fun K hK=>?_)
              refine goes_ Tryz.func89 (by kernel_rfl) rfl #[.bool (decide (t38 > 0))] (by rfl) rfl rfl za11 ?_
              with_reducible refine (spec_l1Bit.calls (decide (t38 > 0)) t39 _ A69.out).mono ?_
              rintro e w' ⟨rfl,⟨nd,rfl⟩⟩
              refine ⟨_,rfl,?_⟩
              refine hK.out _ _ ⟨(blk_cell BK37.out 0).trans rfl,(blk_cell BK37.out 1).trans rfl,(blk_cell BK37.out 2).trans rfl,(blk_cell BK37.out 3).trans rfl,(blk_cell BK37.out 4).trans rfl,(blk_cell BK37.out 5).trans rfl,(blk_cell BK37.out 6).trans rfl,(blk_cell BK37.out 7).trans rfl⟩ (fun hHeld=>?_)
              clear hK K
              refine zno (some 66) ?_
              exact norm_ za66 (hCont (v41) _ ⟨hHeld,za76,(za5 HO_61038006.out),(za3 BK1.out),(za3 BK37.out),za40,za30,za44⟩)
            rintro v41 w76 ⟨hS_,h0_,h1_,h2_,h3_,h4_,h5_,h6_⟩
            have n0_:Aside0 (Kd.R (Kd.int .i64) 3 w76 w.heap.size (fun k_=>(w.heap.size≤k_)∧some k_ ≠ (.slice Ao72 x61038006_3.length co72:Value).ownBlock) v41 y61040):=⟨h0_⟩
            have n1_:Aside0 (Kd.R (Kd.int .i64) 3 w76 w.heap.size (fun k_=>(w.heap.size≤k_)∧some k_ ≠ (v41:Value).ownBlock) (.slice Ao72 x61038006_3.length co72) x61038006_3):=⟨h1_⟩
            have n2_:Aside0 (w76.heap[gb1]? = some (.cells #[.int .i64 0,.string ⟨#[]⟩,.string ⟨#[]⟩,.int .i64 0,.string ⟨#[]⟩,.slice none 0 0,.slice none 0 0,.int .i64 0] 56 (0,0))):=⟨h2_⟩
            have n3_:Aside0 (w76.heap[gb37]? = some (.cells #[.int .i64 5,.string ⟨#[]⟩,.string ⟨#[]⟩,.int .i64 0,.string ⟨#[]⟩,.slice none 0 0,.slice Ao72 x61038006_3.length co72,.int .i64 t34] 56 (0,0))):=⟨h3_⟩
            have n4_:Aside0 (IsS77 w0 w76 g s0_0 x1001_3 x1002_3):=⟨h4_⟩
            have n5_:Aside0 (KeepBut w w76 g none):=⟨h5_⟩
            have n6_:Aside0 (Below w0.heap.size w0 w76):=⟨h6_⟩
            clear HO_61038006
            clear BK1
            clear BK37
            clear HI0
            clear HK
            clear HB
            clear h0_ h1_ h2_ h3_ h4_ h5_ h6_
            have HO42:=n0_
            have HO_61038006:=n1_
            have BK1:=n2_
            have BK37:=n3_
            have HI0:=n4_
            have HK:=n5_
            have HB:=n6_
            clear n0_ n1_ n2_ n3_ n4_ n5_ n6_
            have hHeld:w76.cell? ⟨gb37,0,none⟩=some (.int .i64 5)∧w76.cell? ⟨gb37,1,none⟩=some (.string ⟨#[]⟩)∧w76.cell? ⟨gb37,2,none⟩=some (.string ⟨#[]⟩)∧w76.cell? ⟨gb37,3,none⟩=some (.int .i64 0)∧w76.cell? ⟨gb37,4,none⟩=some (.string ⟨#[]⟩)∧w76.cell? ⟨gb37,5,none⟩=some (.slice none 0 0)∧w76.cell? ⟨gb37,6,none⟩=some (.slice Ao72 x61038006_3.length co72)∧w76.cell? ⟨gb37,7,none⟩=some (.int .i64 t34):=hS_
            obtain ⟨Ao77,co77,eo77⟩:=Kd.R_slice HO42.out
            ((subst eo77))
            refine norm_ (a':=?_) ?_ ?_
            rotate_left
            ·simp only [putAll,Act.put,zt,zu,zv]
             rfl
            refine zon 10 (some 69) HT_.out (fun K hK=>?_)
            refine goes_ Tryz.func44 (by kernel_rfl) rfl #[.pointer (some ⟨g,0,none⟩),.slice Ao77 y61040.length co77] (by rfl) rfl rfl za11 ?_
            with_reducible refine (spec_l1PickInt.calls g s0_0 x1001_3 x1002_3 _ _ y61040 t43 t44 t45 w0 _ za40 za44 ?side3 ?side4 ?side5 A70.out).mono ?_
            (case side3=>repeat ((exact (Kd.R_reads' HO42.out).2.2)))
            (case side4=>exact (Kd.R_reads' HO42.out).2.1)
            (case side5=>exact far_slice (IsS77.own_ne HI0.out HO42.out (by decide)))
            rintro e w78 ⟨rfl,hi,hb,hk⟩
            refine ⟨_,rfl,?_⟩
            replace HO_61038006:=zk (Kd.R_mono (Kd.R_keep (IsS77.apart (show IsS77 w0 _ g s0_0 x1001_3 x1002_3 from za40) (za5 HO_61038006.out) (by decide)) hk (fun _ h=>h.2)) (fun _ h=>h.1))
            replace BK1:=yq hk BK1 NB1_0
            replace BK37:=yq hk BK37 NB37_0
            replace HO42:=zk (Kd.R_mono (Kd.R_keep (IsS77.apart (show IsS77 w0 _ g s0_0 x1001_3 x1002_3 from za40) (za5 HO42.out) (by decide)) hk (fun _ h=>h.2)) (fun _ h=>h.1))
            replace HK:=yK HK hk
            replace HB:=zk hb
            replace HI0:=zk hi
            (try clear hb)
            (try clear hb2)
            (try clear hk)
            (try clear hi)
            refine hK.out _ _ ⟨(blk_cell BK37.out 0).trans rfl,(blk_cell BK37.out 1).trans rfl,(blk_cell BK37.out 2).trans rfl,(blk_cell BK37.out 3).trans rfl,(blk_cell BK37.out 4).trans rfl,(blk_cell BK37.out 5).trans rfl,(blk_cell BK37.out 6).trans rfl,(blk_cell BK37.out 7).trans rfl⟩ (fun hHeld=>?_)
            clear hK K
            refine zno (some 69) ?_
            refine zy 11 (some 70) HT_.out ?_
            refine zon 12 (some 71) HT_.out (fun K hK=>?_)
            refine value_ (w1:=?_) (v:=?_) (by rfl) rfl ?_ ?_
            rotate_left 2
            ·go_simp
             constructor
             ·rfl
             ·rfl
            refine hK.out _ _ ⟨(blk_cell (blk_alloc BK37.out _) 0).trans rfl,(blk_cell (blk_alloc BK37.out _) 1).trans rfl,(blk_cell (blk_alloc BK37.out _) 2).trans rfl,(blk_cell (blk_alloc BK37.out _) 3).trans rfl,(blk_cell (blk_alloc BK37.out _) 4).trans rfl,(blk_cell (blk_alloc BK37.out _) 5).trans rfl,(blk_cell (blk_alloc BK37.out _) 6).trans rfl,(blk_cell (blk_alloc BK37.out _) 7).trans rfl⟩ (fun hHeld=>?_)
            clear hK K
            refine zno (some 71) ?_
            refine zon 13 (some 72) HT_.out (fun K hK=>?_)
            refine Kd.R_append_step (Kd.int .i64) w.heap.size (by rfl) (.tmp 60) (.tmp 71) 48 3 (.int .i64 0) 8 rfl Tryz.underlying48 info3 rfl (by decide) (by omega) (.slice Ao72 x61038006_3.length co72) x61038006_3 (wrap64 (t39 * t43)) [.int .i64 (wrap64 (t39 * t43))] (fun k_=>(w.heap.size≤k_)∧some k_ ≠ (.slice Ao77 y61040.length co77:Value).ownBlock) (fun _=>False) rfl rfl ?aP (fun _ hk=>hk.elim) ?aF ?aO (Below.refl _ _) ?aS ?aL ?_
            (case aP=>exact rfl)
            (case aF=>exact (fun k_ hk=>⟨(Nat.le_trans (keep_size (w:=w) (g:=g) (row:=none) za30) hk),Kd.fresh' (Kd.R_lt (za5 HO42.out)) k_ hk⟩))
            (case aO=>exact (za5 HO_61038006.out))
            (case aS=>exact (keep_size (w:=w) (g:=g) (row:=none) za30))
            (case aL=>have:=LMc71.out;omega)
            intro v47 w79 ho hb hg hat
            rw [← Ny46.out] at ho
            replace BK1:=zk (blk_grown (g:=gb1) (o:=.cells #[.int .i64 0,.string ⟨#[]⟩,.string ⟨#[]⟩,.int .i64 0,.string ⟨#[]⟩,.slice none 0 0,.slice none 0 0,.int .i64 0] 56 (0,0)) (za3 BK1.out) hg (Kd.R_ne HO_61038006.out BK1.out (by decide)))
            replace BK37:=zk (blk_grown (g:=gb37) (o:=.cells #[.int .i64 5,.string ⟨#[]⟩,.string ⟨#[]⟩,.int .i64 0,.string ⟨#[]⟩,.slice none 0 0,.slice Ao72 x61038006_3.length co72,.int .i64 t34] 56 (0,0)) (za3 BK37.out) hg (Kd.R_ne HO_61038006.out BK37.out (by decide)))
            replace HO42:=zk (Kd.R_after (ok:=(fun k_=>(w.heap.size≤k_))) (za5 HO42.out) hg hat)
            replace HB:=zk (below_weaken za44 HL.out hb)
            replace HK:=zk (KeepBut.trans za30 (KeepBut.of_grown hg g) (Kd.R_base2 HO_61038006.out))
            have HO48:=zk ho
            replace HI0:=zk (IsS77.grown za40 hg (IsS77.own_ne HI0.out HO_61038006.out (by decide)))
            clear HO_61038006
            clear ho hb hg hat
            obtain ⟨Ao80,co80,eo80⟩:=Kd.R_slice HO48.out
            ((subst eo80))
            refine hK.out _ _ ⟨(blk_cell BK37.out 0).trans rfl,(blk_cell BK37.out 1).trans rfl,(blk_cell BK37.out 2).trans rfl,(blk_cell BK37.out 3).trans rfl,(blk_cell BK37.out 4).trans rfl,(blk_cell BK37.out 5).trans rfl,(blk_cell BK37.out 6).trans rfl,(blk_cell BK37.out 7).trans rfl⟩ (fun hHeld=>?_)
            clear hK K
            refine zno (some 72) ?_
            refine zy 14 (some 73) HT_.out ?_
            refine last_ (i:=15) (N:=none) #[true,true,true,true,true,true,true,true,true,true,true,true,true,true,true,true] rfl rfl (one_of HT_.out (by kernel_rfl)) (by decide) (fun K hK=>?_)
            have hs81:w79.cell? ⟨gb37,6,none⟩=some (.slice Ao72 x61038006_3.length co72):=(blk_cell BK37.out 6).trans rfl
            have hfs81:=blk_frozen BK37.out 6
            have hns81_0:=NB1_37.out
            have hms81_0:=NB37_1.out
            refine skip_ (w1:=?_) (by rfl) rfl ?_ ?_
            rotate_left
            ·go_simp
             rfl
            refine hK.out _ _ ?_
            clear hK K
            refine done_ (done_of HT_.out (by kernel_rfl)) ?_
            try go_wp2
            go_roundg k3
            case measure=>have:=HJ3.out;have:=HJ22.out;have:=HK3.out;omega
            case rel=>exact ⟨(wrap64 (x8_3+1)),(t44),(t45),(y61046),(.slice Ao80 y61046.length co80),za33,H',⟨by have:=HJ3.out;have:=HJ22.out;have:=HK3.out;omega⟩,⟨by (with_reducible repeat ((apply Kd.R_drewN)));exact Kd.R_mono (zfR (Kd.R_types HO48.out BK37.out (by decide))) (fun _ hk=>hk.1.1)⟩,⟨zpw BK1.out⟩,⟨zpu BK37.out⟩,⟨za40⟩,⟨za30⟩,⟨za44⟩⟩
           ·rw [if_neg c71] at H
            exact absurd H (by simp)
           ·rw [if_neg c66] at H
            exact absurd H (by simp)
           ·rw [if_neg c65] at H
            have c65b0:=zdnl c65
            clear c65
            simp only [Option.some.injEq,Prod.mk.injEq] at H
            obtain ⟨rfl,rfl,rfl,rfl,rfl,rfl,rfl,rfl,rfl,rfl⟩:=H
            have hnb82:=NB37_1.out
            have hnc82:=NB1_37.out
            have hnb83:=NB37_0.out
            have hnc83:=NB0_37.out
            obtain ⟨hcz84_0,hcz84_1,hcz84_2,hcz84_3,hcz84_4,hcz84_5,hcz84_6,hcz84_7,hfz84_0,hfz84_1,hfz84_2,hfz84_3,hfz84_4,hfz84_5,hfz84_6,hfz84_7⟩:=blk8 BK37.out
            have hnb85:=NB1_0.out
            have hnc85:=NB0_1.out
            obtain ⟨hcz86_0,hcz86_1,hcz86_2,hcz86_3,hcz86_4,hcz86_5,hcz86_6,hcz86_7,hfz86_0,hfz86_1,hfz86_2,hfz86_3,hfz86_4,hfz86_5,hfz86_6,hfz86_7⟩:=blk8 BK1.out
            obtain ⟨Ao87,co87,eo87⟩:=Kd.R_slice HO_61038006.out
            subst eo87
            go_wp2
            refine bodyPost_ret (results_cell_row rfl _ _ gb1 56 #[.int .i64 5,.string ⟨#[]⟩,.string ⟨#[]⟩,.int .i64 0,.string ⟨#[]⟩,.slice none 0 0,.slice Ao87 x61038006_3.length co87,.int .i64 t34] (0,0) _ rfl (zpu BK1.out) Tryz.underlying56 rfl (by kernel_rfl)) rfl ?_
            exact ⟨_,_,by (rfl),za64,by (with_reducible repeat ((apply Kd.R_drewN)));exact Kd.R_mono (zfR (zfR (zfR (zfR (zfR (zfR (zfR (zfR (Kd.R_types HO_61038006.out BK1.out (by decide)))))))))) (fun _ hk=>hk.1),za40,za44,za30⟩
end Go.Proofs.YtcbjhfoeecfcoaaGreat.A
