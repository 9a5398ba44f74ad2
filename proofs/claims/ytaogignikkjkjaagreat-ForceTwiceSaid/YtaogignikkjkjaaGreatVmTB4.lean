/- A part; no conditions. -/
import Derived.Test.YtaogignikkjkjaaGreatVmTA7
set_option maxRecDepth 1000000
set_option maxHeartbeats 1000000
set_option linter.all false
open Go.Proofs.Tryz renaming prog->P9
open Nat renaming beq->N9
open Go renaming Value->V9,Program->Q9,World->W9,IntKind->K9
namespace Go.Vm
open Go.Proofs
def rO(a b m:Nat)(e:Int):V9:=.tuple ⟨[.agg ⟨[.complex .f64 a b,.float .f64 m]⟩,.int .i64 e]⟩
structure Fot(cs:List V9)(sz m c c1 c2 r n:Nat)(d z v q:Nat->Nat×Nat):Prop where
 gone:∀k,k<n->∀(R:Type)(K:Nat->Nat->Nat->Nat->Option R),aWc aG vX jJ r c1 c2 n k K=K (d k).1 (d k).2 (z k).1 (z k).2
 spd:∀k,k<n->aD P9 61 [cW 0 m c,.complex .f64 (z k).1 (z k).2] ⟨1,[(0,.cells cs sz)]⟩ (.tuple ⟨[.complex .f64 (v k).1 (v k).2,.int .i64 0]⟩)
 term:∀k,k<n->∀(R:Type)(K:KNN R),(jV R (d k).1 (d k).2 λt1 t2=>xJ dV (v k).1 (v k).2 [((v k).1,(v k).2),(t1,t2),((d k).1,(d k).2)] K)=K (q k).1 (q k).2
noncomputable def foR(p:Nat×Nat):Cx:=foC aPn aG rSt (rAp P9) vX jJ dV jV eQ jK aP dG [(61,bFy (aQe P9 p))]
noncomputable def foS(x y u1 u2:Nat):Cx:=foC aPn aG rSt (rAp P9) vX jJ dV jV eQ jK aP dG [(13,bF (reV x y 0) (fJ P9 13 (reV x y 0))),(44,bF (.complex .f64 u1 u2) (fJ P9 44 (.complex .f64 u1 u2)))]
theorem cFg:Has P9 13:=⟨Tryz.f13,_,Tryz.func13,by kernel_rfl,rfl⟩
theorem bHx:mE P9 [(27,bI8 vX),(26,jH jJ),(16,sCC jV),(15,tF eQ),(64,sCC jK),(91,sCB aP),(93,sFB dG),(60,aP6)]:=
 .cons bQo bQj (.cons k84 h84 (.cons k40 h40 (.cons k39 h39 (.cons cD0 cC6 (.cons k93 h93 (.cons bXs bXl (.cons bZ0 h60 .nil)))))))
theorem aRr(p:Nat×Nat):(foR p).Ok:=lS jR bHx lY (.cons k62 h62 (.cons (aKm p) bZh .nil)) .nil (jX .nil)
theorem bHw(x y u1 u2:Nat):(foS x y u1 u2).Ok:=lS jR bHx lY (.cons k62 h62 (.cons (gL rfl) cFg (.cons (gL rfl) aWd .nil))) .nil (jX .nil)
theorem aC9:fP foA=[]:=by kernel_rfl
theorem aYk:Tryz.f23.body=some (bB 23):=by kernel_rfl
section
variable{cs:List V9}{sz m c c1 c2 r n x y:Nat}{d z v q:Nat->Nat×Nat}
def foH(cs:List V9)(sz m c c1 c2 r n:Nat)(q:Nat->Nat×Nat)(k:Nat):AH:=⟨5,foD m c c1 c2 r++[(4,.cells (fil q n k) 0),(0,.cells cs sz)]⟩
theorem aOo(hcs:kZ 0 cs=true)(h:Fot cs sz m c c1 c2 r n d z v q)(hn:n<100000){k:Nat}(hk:k<n):
  cI P9 1 87 (foH cs sz m c c1 c2 r n q 0) (foE n x y k) (foH cs sz m c c1 c2 r n q k) .normal (foE n x y (k+1:Nat)) (foH cs sz m c c1 c2 r n q (k+1)) (λQ a w=>foA.wp P9 Q a w):=by
 have hs:aD P9 61 [cW 0 m c,.complex .f64 (z k).1 (z k).2] (foH cs sz m c c1 c2 r n q k) (.tuple ⟨[.complex .f64 (v k).1 (v k).2,.int .i64 0]⟩):=aD.one (b:=0) (h.spd k hk) hcs (by unfold foH foD;simp) rfl;exact bK (C:=foR (v k)) (H0:=foH cs sz m c c1 c2 r n q 0) (e:=foE n x y k) (H:=foH cs sz m c c1 c2 r n q k) (n:=60) (ts:=[31,30,10,4,3,2,6,8]) (bo:=[3,2,1,4]) (bs:=[]) (A:=foD m c c1 c2 r++[(4,.cells (fil q n (k+1)) 0)]) (B:=[(0,.cells cs sz)]) (D:=foD m c c1 c2 r++[(4,.cells (fil q n 0) 0)]) (e1:=foE n x y (k+1:Nat)) (O1:=foD m c c1 c2 r++[(4,.cells (fil q n (k+1)) 0)]) (aRr _) aO aC9
  (by
   unfold foR;refine(fo_round aG _ _ _ _ _ _ _ _ _ _ _ _ cs (fil q n k) sz m c n k c1 c2 r x y _).trans ?_;unfold foRd;rw[D7 (show(k:Int)<n by omega),T7,h.gone k hk];refine(aDi hs).trans ?_;rw[h.term k hk,jN,T7];unfold rSt;rw[iJ (by rw[yK q (by omega)];simp;omega),T7,zP q hk];show aG (Ex×Env×dF) _ _=_;rw[aI,fN (by omega)]) rfl
  (by show fD _ ((3,.cells [.complex .f64 0 0,.float .f64 0] 0)::(2,.cells [.complex .f64 c1 c2,.float .f64 r] 0)::(1,.cells [.slice (some ⟨0,0,none⟩) m c] 0)::[(4,.cells (fil q n (k+1)) 0)])=_;simp only[fD,pN,qJ,nH];rw[bQ (qY q n (k+1))];rfl) rfl rfl rfl rfl rfl
theorem aOn:
  cI P9 1 87 (foH cs sz m c c1 c2 r n q 0) (foE n x y n) (foH cs sz m c c1 c2 r n q n) (.exit 0) (foE n x y n) (foH cs sz m c c1 c2 r n q n) (λQ a w=>foA.wp P9 Q a w):=by
 exact bK (C:=foR (0,0)) (H0:=foH cs sz m c c1 c2 r n q 0) (e:=foE n x y n) (H:=foH cs sz m c c1 c2 r n q n) (n:=60) (ts:=[31,30,10,4,3,2,6,8]) (bo:=[3,2,1,4]) (bs:=[]) (A:=foD m c c1 c2 r++[(4,.cells (fil q n n) 0)]) (B:=[(0,.cells cs sz)]) (D:=foD m c c1 c2 r++[(4,.cells (fil q n 0) 0)]) (e1:=foE n x y n) (O1:=foD m c c1 c2 r++[(4,.cells (fil q n n) 0)]) (aRr _) aO aC9
  (by
   unfold foR;refine(fo_round aG _ _ _ _ _ _ _ _ _ _ _ _ cs (fil q n n) sz m c n n c1 c2 r x y _).trans ?_;unfold foRd;rw[E7 (by omega),F7]) rfl
  (by show fD _ ((3,.cells [.complex .f64 0 0,.float .f64 0] 0)::(2,.cells [.complex .f64 c1 c2,.float .f64 r] 0)::(1,.cells [.slice (some ⟨0,0,none⟩) m c] 0)::[(4,.cells (fil q n n) 0)])=_;simp only[fD,pN,qJ,nH];rw[bQ (qY q n n)];rfl) rfl rfl rfl rfl rfl
theorem aEc(hcs:kZ 0 cs=true)(h:Fot cs sz m c c1 c2 r n d z v q)(hn:n<100000):
  dH P9 1 87 (foH cs sz m c c1 c2 r n q 0) foA (foE n x y (0:Nat)) (foH cs sz m c c1 c2 r n q 0) (.exit 0) (foE n x y n) (foH cs sz m c c1 c2 r n q n):=by
 refine fQ (E:=λk:Nat=>foE n x y k) (H:=λk=>foH cs sz m c c1 c2 r n q k) n 0 (λk _ hk=>aOo hcs h hn (by omega)) (gY (by intro h;cases h) ?_);simp only[Nat.zero_add];exact aOn
theorem of_force{u1 u2 a b w:Nat}{e:Int}{g:Nat->Nat×Nat}(hcs:kZ 0 cs=true)(h:Fot cs sz m c c1 c2 r n d z v q)(hn:n<=16384)(hq:aD P9 13 [cW 0 m c,ciV c1 c2 r,.int .i64 n] ⟨1,[(0,.cells cs sz)]⟩ (reV x y 0))(hs:aGf (lst q n) g)(hx:g n=(u1,u2))(hl:∀(R:Type)(K:Nat->Nat->Nat->Int->Option R),foZ jV eQ jK aP dG n x y u1 u2 K=K a b w e):
  aD P9 23 [cW 0 m c,ciV c1 c2 r,.int .i64 n] ⟨1,[(0,.cells cs sz)]⟩ (rO a b w e):=by
 have hB:=@gG _ _ _ _ _ _ _ _ _ (aEc (x:=x) (y:=y) hcs h (by omega));have hq':aD P9 13 [cW 0 m c,ciV c1 c2 r,.int .i64 n] ⟨4,foD m c c1 c2 r++[(0,.cells cs sz)]⟩ (reV x y 0):=aD.one (b:=0) hq hcs (by unfold foD;simp) rfl;have hsum:aD P9 44 [.slice (some ⟨4,0,none⟩) n n] (foH cs sz m c c1 c2 r n q n) (.complex .f64 u1 u2):=by have:=pS (cs:=bA (lst q n)) (sz:=0) (o:=0) (c:=n) (zs:=lst q n) (f:=g) (mG _) (by rw[qO];omega) hs;rw[qO,hx]at this;refine aD.one (b:=4) this (oO _) ?_ rfl;unfold foH;rw[aEa];simp
 have ht:=fo_top aG (Ex×Env×dF) rSt (rAp P9) vX jJ dV jV eQ jK aP dG cs sz m c n c1 c2 r x y u1 u2 (λex e O=>some (ex,e,O)) (told P9 (.exit 0) (foE n x y n) (foH cs sz m c c1 c2 r n q n)) (fJ P9 13 (reV x y 0)) (fJ P9 44 (.complex .f64 u1 u2));rw[cO hq']at ht;rw[D7 (show(0:Int)<=(n:Int) by omega),D7 (show(n:Int)<=(n:Int) by omega),D7 (show(n:Int)<=4294967296 by omega),D7 (show(16:Int)*n<=281474976710656 by omega)]at ht;rw[show(true&&true&&true&&true)=true from rfl,T7,zQ q n]at ht;have ht:=ht.trans (gT @hB _ _);rw[cX]at ht;have ht:=ht.trans (fo_end aG _ _ _ _ _ _ _ _ _ _ _ cs (fil q n n) sz m c n n c1 c2 r x y u1 u2 _ _ _ _);have ht:=ht.trans (cO hsum);rw[hl]at ht;have hok:=bHw x y u1 u2;refine fK (C:=foS x y u1 u2) (n:=60) (f:=23) (fn:=Tryz.f23) (c:=bB 23) (L:=eS [31,30,10,4,3,2,6,8] [3,2,1,4,0] (told P9 (.exit 0) (foE n x y n) (foH cs sz m c c1 c2 r n q n))) (ts:=[6,7]) (bo:=[3]) (ex:=.ret) (e':=[(6,.pointer (some ⟨3,0,none⟩)),(7,.int .i64 e)]) (O:=[(3,.cells [.complex .f64 a b,.float .f64 w] 0)]) (H:=⟨1,[(0,.cells cs sz)]⟩) (args:=[cW 0 m c,ciV c1 c2 r,.int .i64 n]) (vs:=[.agg ⟨[.complex .f64 a b,.float .f64 w]⟩,.int .i64 e]) ?_ ?_ ?_ ?_ ?_ ?_ ?_ ?_ ?_ ?_;· exact hok
 ·exact aO
 ·exact Tryz.func23
 ·exact aYk
 ·exact λa _=>dJ (gN _ _ _ _ a)
 ·exact kK rfl
 ·exact ht
 ·exact .inr rfl
 ·rfl
 ·rfl
end
theorem Next.frame{lo n:Nat}{ρ ρ':Map}{O F:dF}{H':AH}{w w':W9}(hi:Inv ρ ⟨n,O++F⟩ w)(h:Next lo ρ ⟨n,O⟩ w ρ' H' w')(hd:∀k o o',(k,o)∈O->(k,o')∈F->False):
  Next lo ρ ⟨n,O++F⟩ w ρ' ⟨H'.next,H'.objs++F⟩ w':=by
 have inO:∀{x},x∈O->x∈(⟨n,O++F⟩:AH).objs:=λhx=>List.mem_append_left _ hx
 have inF:∀{x},x∈F->x∈(⟨n,O++F⟩:AH).objs:=λhx=>List.mem_append_right _ hx
 have ext:∀k p,ρ k=some p->ρ' k=some p:=λk p hk=>by rw[h.same k (hi.lt hk)];exact hk
 have back:∀{k o},(k,o)∈F->∃s,ρ k=some s/\ρ' k=some s/\yW ρ o s w:=λ{k o} hm=>by obtain⟨s,e1,e2⟩:=hi.rel.obj k o (inF hm);exact⟨s,e1,ext k s e1,e2⟩
 have apart:∀{k o j f s s2},(k,o)∈H'.objs->(j,f)∈F->ρ' k=some s2->ρ j=some s->yW ρ f s w->s2.b≠s.b:=λ{k o j f s s2} hk hj e1 e2 e3 hb=>by
  rcases Nat.lt_or_ge k lo with hl|hl;· have hO:=(h.old k o hl).1 hk;have hkn:=hi.wf k o (inO hO);rw[h.same k hkn]at e1;have:=hi.rel.inj k o j f s2 s (inO hO) (inF hj) e1 e2 hb;subst this;exact hd k o f hO hj
  ·rcases h.own k o s2 hl hk e1 with g|⟨k',o',s',g1,g2,g3,g4⟩
   ·have:=e3.lt;omega
   ·have:=hi.rel.inj k' o' j f s' s (inO g2) (inF hj) g3 e2 (by rw[g4,hb]);subst this;exact hd k' o' f g2 hj
 exact
  {inv:=⟨h.inv.dom,λk o hm=>by
     rcases List.mem_append.1 hm with hm|hm;· exact h.inv.wf k o hm
     ·have:=hi.wf k o (inF hm);have:=h.nx;show k<H'.next;simp only at *
      omega,
    λk o o' h1 h2=>by
     rcases List.mem_append.1 h1 with h1|h1<;>rcases List.mem_append.1 h2 with h2|h2
     ·exact h.inv.one k o o' h1 h2
     ·obtain⟨s,e1,e2,e3⟩:=back h2;exact absurd rfl (apart h1 h2 e2 e1 e3)
     ·obtain⟨s,e1,e2,e3⟩:=back h1;exact absurd rfl (apart h2 h1 e2 e1 e3)
     ·exact hi.one k o o' (inF h1) (inF h2),
    ⟨λk o hm=>by
     rcases List.mem_append.1 hm with hm|hm;· exact h.inv.rel.obj k o hm
     ·obtain⟨s,e1,e2,e3⟩:=back hm;refine⟨s,e2,(e3.mono ext).heap (h.keep s.b e3.lt λk' o' s' hl hm' he hb=>?_)⟩;have:=hi.rel.inj k' o' k o s' s (inO hm') (inF hm) he e1 hb;subst this;exact hd k' o' o hm' hm,
    λk o k' o' s s' h1 h2 h3 h4 h5=>by
     rcases List.mem_append.1 h1 with h1|h1<;>rcases List.mem_append.1 h2 with h2|h2
     ·exact h.inv.rel.inj k o k' o' s s' h1 h2 h3 h4 h5
     ·obtain⟨t,e1,e2,e3⟩:=back h2;rw[e2]at h4;cases h4;exact absurd h5 (apart h1 h2 h3 e1 e3)
     ·obtain⟨t,e1,e2,e3⟩:=back h1;rw[e2]at h3;cases h3;exact absurd h5.symm (apart h2 h1 h4 e1 e3)
     ·obtain⟨t,e1,e2,e3⟩:=back h1;obtain⟨t',e1',e2',e3'⟩:=back h2;rw[e2]at h3;rw[e2']at h4;cases h3;cases h4;exact hi.rel.inj k o k' o' _ _ (inF h1) (inF h2) e1 e1' h5⟩⟩
   same:=h.same
   nx:=h.nx
   size:=h.size
   os:=h.os
   tape:=h.tape
   output:=h.output
   keep:=λb hb hn=>h.keep b hb λk o s hk hm he=>hn k o s hk (inO hm) he
   own:=λk o s hk hm he=>by
    rcases List.mem_append.1 hm with hm|hm
    ·rcases h.own k o s hk hm he with g|⟨k',o',s',g1,g2,g3,g4⟩
     ·exact .inl g
     ·exact .inr ⟨k',o',s',g1,inO g2,g3,g4⟩
    ·obtain⟨t,e1,e2,e3⟩:=back hm;rw[e2]at he;cases he;exact .inr ⟨k,o,_,hk,inF hm,e1,rfl⟩
   old:=λk o hk=>by have:=h.old k o hk;simp only[List.mem_append];exact⟨λg=>g.imp this.1 id,λg=>g.imp this.2 id⟩ }
def aK8(O:dF):dF->Bool
 |[]=>true
 |(k,_)::r=>!(O.any λx=>N9 x.1 k)&&aK8 O r
theorem aK9{O:dF}:∀{F:dF},aK8 O F=true->∀k o o',(k,o)∈O->(k,o')∈F->False
 |[],_,k,o,o',_,h=>by simp at h
 |(j,f)::r,g,k,o,o',h1,h2=>by
  simp only[aK8,Bool.and_eq_true,Bool.not_eq_true']at g;rcases List.mem_cons.1 h2 with e|h2;· cases e;have:=List.any_eq_false.1 g.1 _ h1;simp at this
  ·exact aK9 g.2 k o o' h1 h2
theorem iE.frame{P:Q9}{lo sz n:Nat}{e e':Env}{O F:dF}{ex:Ex}{H':AH}{W:(Exit->Act->W9->Prop)->Act->W9->Prop}(h:iE P lo sz e ⟨n,O⟩ ex e' H' W)(hd:∀k o o',(k,o)∈O->(k,o')∈F->False):
  iE P lo sz e ⟨n,O++F⟩ ex e' ⟨H'.next,H'.objs++F⟩ W:=
 λ{ρ w a} hi hlo he hs Q hQ=>h (hi.sub λx hx=>List.mem_append_left _ hx) hlo he hs Q λρ' a' w' m1 m2 m3 m4=>hQ ρ' a' w' (m1.frame hi hd) m2 m3 m4
theorem oE{C:Cx}(hC:C.Ok)(hmix:C.P.follows .mixedOrders=true){n lo sz nx:Nat}{c:Code}{L:qR}(hl:∀a∈fP c,LOk C.P L a){H0:AH}{e:Env}{O F E:dF}{ts bo bs:List Nat}{ex:Ex}{e1 e2:Env}{O1 A B D:dF}(h:bE C n L lo sz c e ⟨nx,O⟩ (aU ts bo λex e O=>some (ex,e,O))=some (ex,e1,O1))(hF:aK8 O (F++E)=true)(he:bFs (gK H0.next bs) e1=some e2)(hO:fD (gK H0.next bs) (O1++F)=some A)(hbs:bs.all (Nat.ble H0.next)=true)(hD:H0.objs=D++B)(hB:ltB lo B=true)(hA:geB lo A=true)(hd:geB lo D=true):cI C.P lo sz H0 e ⟨nx,O++(F++E)⟩ ex e2 ⟨H0.next+bs.length,A++B⟩ (λQ a w=>c.wp C.P Q a w):=by
 obtain⟨ex1,e',H',g1,g2⟩:=pE hC hmix c (L:=L) (n:=n) hl _ _ _ _ h;unfold aU at g1;cases g1;have g3:=@iE.frame C.P lo sz nx e e' O (F++E) ex H' _ @g2 (aK9 hF);have g4:cI C.P lo sz H0 e ⟨nx,O++(F++E)⟩ ex e' ⟨H'.next,H'.objs++(F++E)⟩ (λQ a w=>c.wp C.P Q a w):=iE.base @g3;exact λρ0 w0 ρ w a hi hlo hn hev hs Q hQ=>g4 _ _ _ _ _ hi hlo hn hev hs Q λρ' a' w' m1 m2 m3 m4=>by
  have hpid:∀k s,ρ0 k=some s->gK H0.next bs k=some k:=λk s hk=>by unfold gK;rw[aIg (hi.lt hk)];rfl
  obtain⟨q1,q2⟩:=Next.rename hi hlo m1 (bs:=bs) (O:=A++B) (λk o2 hm=>by
   rcases List.mem_append.1 hm with hm|hm
   ·obtain⟨j,o,r1,r2⟩:=aFi hO hm;refine⟨j,o,?_,r2⟩;rcases List.mem_append.1 r1 with r1|r1
    ·exact List.mem_append_left _ (sQ r1)
    ·exact List.mem_append_right _ (List.mem_append_left _ r1)
   ·have hk:=aO3 hB hm;have hm0:(k,o2)∈H0.objs:=by rw[hD];exact List.mem_append_right _ hm
    obtain⟨s,e1,e2⟩:=hi.rel.obj k o2 hm0;exact⟨k,o2,(m1.old k o2 hk).2 hm0,hpid k s e1,e2.ren_id hpid⟩) (λj hj=>by
   have:=List.all_eq_true.1 hbs j hj;rwa[Nat.ble_eq]at this) (λk o hk=>by rw[hD];exact aMo hA hd k o hk)
  refine hQ _ a' w' q1 (λt v hv=>?_) m3 m4;obtain⟨v1,r1,r2⟩:=aJ8 he hv;obtain⟨v',t1,t2⟩:=m2 t v1 (oR r1);exact⟨v',t1,t2.ren q2 r2⟩
theorem Next.bump{lo nx ny:Nat}{H0:AH}{O:dF}{ρ0 ρ:Map}{w0 w:W9}(h:Next lo ρ0 H0 w0 ρ ⟨nx,O⟩ w)(hn:nx<=ny):Next lo ρ0 H0 w0 ρ ⟨ny,O⟩ w:=
 {inv:=⟨λk hk=>h.inv.dom k (Nat.le_trans hn hk),λk o hm=>Nat.lt_of_lt_of_le (h.inv.wf k o hm) hn,h.inv.one,h.inv.rel⟩
  same:=h.same,nx:=Nat.le_trans h.nx hn,size:=h.size,os:=h.os,tape:=h.tape,output:=h.output,keep:=h.keep,own:=h.own,old:=h.old }
theorem cI.bump{P:Q9}{lo sz nx ny:Nat}{H0 H':AH}{e e':Env}{ex:Ex}{O:dF}{W:(Exit->Act->W9->Prop)->Act->W9->Prop}(h:cI P lo sz H0 e ⟨ny,O⟩ ex e' H' W)(hn:nx<=ny):cI P lo sz H0 e ⟨nx,O⟩ ex e' H' W:=
 λρ0 w0 ρ w a hi hlo hnx hev hs Q hQ=>h _ _ _ _ _ hi hlo (hnx.bump hn) hev hs Q hQ
theorem cI.same{P:Q9}{lo sz nx ny:Nat}{H0:AH}{e e':Env}{ex:Ex}{O O2 U U2:dF}{W:(Exit->Act->W9->Prop)->Act->W9->Prop}(h:cI P lo sz H0 e ⟨nx,O⟩ ex e' ⟨ny,U⟩ W)(hO:∀x,x∈O↔x∈O2)(hU:∀x,x∈U↔x∈U2):cI P lo sz H0 e ⟨nx,O2⟩ ex e' ⟨ny,U2⟩ W:=by
 have conv:∀{n:Nat}{A B:dF}{ρ0 ρ:Map}{w0 w:W9},(∀x,x∈A↔x∈B)->Next lo ρ0 H0 w0 ρ ⟨n,A⟩ w->Next lo ρ0 H0 w0 ρ ⟨n,B⟩ w:=λ{n A B ρ0 ρ w0 w} hab g=>
  {inv:=⟨g.inv.dom,λk o hm=>g.inv.wf k o ((hab _).2 hm),λk o o' h1 h2=>g.inv.one k o o' ((hab _).2 h1) ((hab _).2 h2),g.inv.rel.sub λx hx=>(hab x).2 hx⟩
   same:=g.same,nx:=g.nx,size:=g.size,os:=g.os,tape:=g.tape,output:=g.output,keep:=g.keep
   own:=λk o s hk hm he=>g.own k o s hk ((hab _).2 hm) he
   old:=λk o hk=>((hab (k,o)).symm).trans (g.old k o hk) }
 exact λρ0 w0 ρ w a hi hlo hn hev hs Q hQ=>h _ _ _ _ _ hi hlo (conv (λx=>(hO x).symm) hn) hev hs Q λρ' a' w' m1 m2 m3 m4=>hQ ρ' a' w' (conv hU m1) m2 m3 m4
noncomputable def fbA:Code:=sI (bB 24) 0
noncomputable def fbC(lim:Nat->Bool)(kd:Int)(fi:Fi)(ge:aUg)(st:St)(ap:Ap)(ad mu sub:gU)(sh ng cj:KCC)(sc:mO)(fn:KCB)(ff:KFB)(pr:KPr)(gl:List (Nat×vP))(ml:List (Nat×aDo)):Cx:=
 cxM fi P9 (λ_ _=>none) [(26,jH ad),(35,jH sub),(67,sCC sh),(45,sCC ng),(64,sCC cj),(15,tF sc),(91,sCB fn),(93,sFB ff),(69,sPr pr),(60,aP6)] [] ((62,bFv mu)::gl) ml (aPh lim [(39,bXi kd ge)] st ap)
def fbE(w sv:V9)(n c x y:Nat)(k:Int):Env:=[(46,.int .i64 k),(45,.int .i64 n),(44,.slice (some ⟨0,0,none⟩) n c),(8,w),(9,.pointer (some ⟨6,0,none⟩)),(10,sv),(3,.pointer (some ⟨2,0,none⟩)),(4,.pointer (some ⟨3,0,none⟩)),(6,.complex .f64 x y)]
def fbT:List Nat:=[46,45,44,8,9,10,3,4,6]
def fbB(iv ov:V9):Nat×qQ:=(6,.cells [iv,ov,.map (some 5)] 0)
def fbI{R:Type}(ge:aUg)(cs:List V9)(n k:Nat)(E:Option R)(X:Nat->Nat->Nat->Nat->Nat->Option R):Option R:=
 bif decide ((k:Int)<n) then bif decide (0<=(k:Int))&&decide ((k:Int)<n)&&true then ge R cs (0+k*4) X else none else E
def aKz(b:Nat):Bool:=N9 b 0||N9 b 7
def bXw(b:Nat):Bool:=N9 b 0||N9 b 8
def bTm(b:Nat):Bool:=N9 b 0||N9 b 8||N9 b 9
section
variable(fi:Fi)(ge:aUg)(st:St)(ap:Ap)(ad mu sub:gU)(sh ng cj:KCC)(sc:mO)(fn:KCB)(ff:KFB)(pr:KPr)(gc:HT)(cs os hs is:List V9)(sz n c k x y j l:Nat)(w sv iv ov:V9)(R:Type)(K:Ex->Env->dF->Option R)
theorem aX5:bE (fbC oa0 1 fi ge st ap ad mu sub sh ng cj sc fn ff pr [(66,bF (.bool false) gc)] []) 60 noL 1 180 fbA (fbE w sv n c x y k) ⟨10,[fbB iv bL,(4,.cells is 1)]++[(0,.cells cs sz)]⟩ (aU fbT [6,12,4] K) =
  fbI ge cs n k (K (.exit 0) (fbE w sv n c x y k) [fbB iv bL,(4,.cells is 1)]) λa1 a2 s1 s2 p=>(fi R (K9.i64.wrap (k+1)) λi=>K .normal (fbE w sv n c x y i) [fbB iv (sl3 12 1),(12,.cells [.int .u8 1,.complex .f64 a1 a2,.complex .f64 s1 s2,.float .f64 p] 4),(4,.cells is 1)]):=by kernel_rfl
theorem aX7:bE (fbC aKz 1 fi ge st ap ad mu sub sh ng cj sc fn ff pr [(66,bF (.bool false) gc)] []) 60 noL 1 180 fbA (fbE w sv n c x y k) ⟨10,[fbB iv (sl3 7 j),(7,.cells os 4),(4,.cells is 1)]++[(0,.cells cs sz)]⟩ (aU fbT [6,7,12,4] K) =
  fbI ge cs n k (K (.exit 0) (fbE w sv n c x y k) [fbB iv (sl3 7 j),(7,.cells os 4),(4,.cells is 1)]) λa1 a2 s1 s2 p=>(ap R 27 os j j [.int .u8 1,.complex .f64 a1 a2,.complex .f64 s1 s2,.float .f64 p] 0 1 λos=>fi R (K9.i64.wrap (k+1)) λi=>K .normal (fbE w sv n c x y i) [fbB iv (sl3 12 (j+1)),(12,.cells os 4),(4,.cells is 1)]):=by kernel_rfl
theorem bLa:bE (fbC oa0 2 fi ge st ap ad mu sub sh ng cj sc fn ff pr [(66,bF (.bool false) gc)] []) 60 noL 1 180 fbA (fbE w sv n c x y k) ⟨10,[fbB iv bL,(4,.cells is 1)]++[(0,.cells cs sz)]⟩ (aU fbT [6,12,4] K) =
  fbI ge cs n k (K (.exit 0) (fbE w sv n c x y k) [fbB iv bL,(4,.cells is 1)]) λa1 a2 s1 s2 p=>gc R [w,.int .i64 (k:Int)] ⟨11,[(10,.cells [.int .u8 2,.complex .f64 a1 a2,.complex .f64 s1 s2,.float .f64 p] 0),fbB iv bL,(4,.cells is 1),(0,.cells cs sz)]⟩ (fi R (K9.i64.wrap (k+1)) λi=>K .normal (fbE w sv n c x y i) [fbB iv (sl3 12 1),(12,.cells [.int .u8 2,.complex .f64 a1 a2,.complex .f64 s1 s2,.float .f64 p] 4),(4,.cells is 1)]):=by kernel_rfl
theorem bLg:bE (fbC aKz 2 fi ge st ap ad mu sub sh ng cj sc fn ff pr [(66,bF (.bool false) gc)] []) 60 noL 1 180 fbA (fbE w sv n c x y k) ⟨10,[fbB iv (sl3 7 j),(7,.cells os 4),(4,.cells is 1)]++[(0,.cells cs sz)]⟩ (aU fbT [6,7,12,4] K) =
  fbI ge cs n k (K (.exit 0) (fbE w sv n c x y k) [fbB iv (sl3 7 j),(7,.cells os 4),(4,.cells is 1)]) λa1 a2 s1 s2 p=>gc R [w,.int .i64 (k:Int)] ⟨11,[(10,.cells [.int .u8 2,.complex .f64 a1 a2,.complex .f64 s1 s2,.float .f64 p] 0),fbB iv (sl3 7 j),(7,.cells os 4),(4,.cells is 1),(0,.cells cs sz)]⟩ (ap R 27 os j j [.int .u8 2,.complex .f64 a1 a2,.complex .f64 s1 s2,.float .f64 p] 0 1 λos=>fi R (K9.i64.wrap (k+1)) λi=>K .normal (fbE w sv n c x y i) [fbB iv (sl3 12 (j+1)),(12,.cells os 4),(4,.cells is 1)]):=by kernel_rfl
theorem bLc:bE (fbC oa0 3 fi ge st ap ad mu sub sh ng cj sc fn ff pr [(66,bF (.bool false) gc)] []) 60 noL 1 180 fbA (fbE w sv n c x y k) ⟨10,[fbB iv bL,(4,.cells is 1)]++[(0,.cells cs sz)]⟩ (aU fbT [6,12,4] K) =
  fbI ge cs n k (K (.exit 0) (fbE w sv n c x y k) [fbB iv bL,(4,.cells is 1)]) λa1 a2 s1 s2 p=>gc R [w,.int .i64 (k:Int)] ⟨11,[(10,.cells [.int .u8 3,.complex .f64 a1 a2,.complex .f64 s1 s2,.float .f64 p] 0),fbB iv bL,(4,.cells is 1),(0,.cells cs sz)]⟩ (fi R (K9.i64.wrap (k+1)) λi=>K .normal (fbE w sv n c x y i) [fbB iv (sl3 12 1),(12,.cells [.int .u8 3,.complex .f64 a1 a2,.complex .f64 s1 s2,.float .f64 p] 4),(4,.cells is 1)]):=by kernel_rfl
theorem bLi:bE (fbC aKz 3 fi ge st ap ad mu sub sh ng cj sc fn ff pr [(66,bF (.bool false) gc)] []) 60 noL 1 180 fbA (fbE w sv n c x y k) ⟨10,[fbB iv (sl3 7 j),(7,.cells os 4),(4,.cells is 1)]++[(0,.cells cs sz)]⟩ (aU fbT [6,7,12,4] K) =
  fbI ge cs n k (K (.exit 0) (fbE w sv n c x y k) [fbB iv (sl3 7 j),(7,.cells os 4),(4,.cells is 1)]) λa1 a2 s1 s2 p=>gc R [w,.int .i64 (k:Int)] ⟨11,[(10,.cells [.int .u8 3,.complex .f64 a1 a2,.complex .f64 s1 s2,.float .f64 p] 0),fbB iv (sl3 7 j),(7,.cells os 4),(4,.cells is 1),(0,.cells cs sz)]⟩ (ap R 27 os j j [.int .u8 3,.complex .f64 a1 a2,.complex .f64 s1 s2,.float .f64 p] 0 1 λos=>fi R (K9.i64.wrap (k+1)) λi=>K .normal (fbE w sv n c x y i) [fbB iv (sl3 12 (j+1)),(12,.cells os 4),(4,.cells is 1)]):=by kernel_rfl
theorem bLe:bE (fbC oa0 4 fi ge st ap ad mu sub sh ng cj sc fn ff pr [(66,bF (.bool false) gc)] []) 60 noL 1 180 fbA (fbE w sv n c x y k) ⟨10,[fbB iv bL,(4,.cells is 1)]++[(0,.cells cs sz)]⟩ (aU fbT [6,12,4] K) =
  fbI ge cs n k (K (.exit 0) (fbE w sv n c x y k) [fbB iv bL,(4,.cells is 1)]) λa1 a2 s1 s2 p=>(fi R (K9.i64.wrap (k+1)) λi=>K .normal (fbE w sv n c x y i) [fbB iv (sl3 12 1),(12,.cells [.int .u8 4,.complex .f64 a1 a2,.complex .f64 s1 s2,.float .f64 p] 4),(4,.cells is 1)]):=by kernel_rfl
theorem bLk:bE (fbC aKz 4 fi ge st ap ad mu sub sh ng cj sc fn ff pr [(66,bF (.bool false) gc)] []) 60 noL 1 180 fbA (fbE w sv n c x y k) ⟨10,[fbB iv (sl3 7 j),(7,.cells os 4),(4,.cells is 1)]++[(0,.cells cs sz)]⟩ (aU fbT [6,7,12,4] K) =
  fbI ge cs n k (K (.exit 0) (fbE w sv n c x y k) [fbB iv (sl3 7 j),(7,.cells os 4),(4,.cells is 1)]) λa1 a2 s1 s2 p=>(ap R 27 os j j [.int .u8 4,.complex .f64 a1 a2,.complex .f64 s1 s2,.float .f64 p] 0 1 λos=>fi R (K9.i64.wrap (k+1)) λi=>K .normal (fbE w sv n c x y i) [fbB iv (sl3 12 (j+1)),(12,.cells os 4),(4,.cells is 1)]):=by kernel_rfl
theorem aX6:bE (fbC oa0 1 fi ge st ap ad mu sub sh ng cj sc fn ff pr [(66,bF (.bool false) gc)] []) 60 noL 1 180 fbA (fbE w sv n c x y k) ⟨10,[fbB iv bL]++[(0,.cells cs sz)]⟩ (aU fbT [6,12] K) =
  fbI ge cs n k (K (.exit 0) (fbE w sv n c x y k) [fbB iv bL]) λa1 a2 s1 s2 p=>(fi R (K9.i64.wrap (k+1)) λi=>K .normal (fbE w sv n c x y i) [fbB iv (sl3 12 1),(12,.cells [.int .u8 1,.complex .f64 a1 a2,.complex .f64 s1 s2,.float .f64 p] 4)]):=by kernel_rfl
theorem aX8:bE (fbC aKz 1 fi ge st ap ad mu sub sh ng cj sc fn ff pr [(66,bF (.bool false) gc)] []) 60 noL 1 180 fbA (fbE w sv n c x y k) ⟨10,[fbB iv (sl3 7 j),(7,.cells os 4)]++[(0,.cells cs sz)]⟩ (aU fbT [6,7,12] K) =
  fbI ge cs n k (K (.exit 0) (fbE w sv n c x y k) [fbB iv (sl3 7 j),(7,.cells os 4)]) λa1 a2 s1 s2 p=>(ap R 27 os j j [.int .u8 1,.complex .f64 a1 a2,.complex .f64 s1 s2,.float .f64 p] 0 1 λos=>fi R (K9.i64.wrap (k+1)) λi=>K .normal (fbE w sv n c x y i) [fbB iv (sl3 12 (j+1)),(12,.cells os 4)]):=by kernel_rfl
theorem bLb:bE (fbC oa0 2 fi ge st ap ad mu sub sh ng cj sc fn ff pr [(66,bF (.bool false) gc)] []) 60 noL 1 180 fbA (fbE w sv n c x y k) ⟨10,[fbB iv bL]++[(0,.cells cs sz)]⟩ (aU fbT [6,12] K) =
  fbI ge cs n k (K (.exit 0) (fbE w sv n c x y k) [fbB iv bL]) λa1 a2 s1 s2 p=>gc R [w,.int .i64 (k:Int)] ⟨11,[(10,.cells [.int .u8 2,.complex .f64 a1 a2,.complex .f64 s1 s2,.float .f64 p] 0),fbB iv bL,(0,.cells cs sz)]⟩ (fi R (K9.i64.wrap (k+1)) λi=>K .normal (fbE w sv n c x y i) [fbB iv (sl3 12 1),(12,.cells [.int .u8 2,.complex .f64 a1 a2,.complex .f64 s1 s2,.float .f64 p] 4)]):=by kernel_rfl
theorem bLh:bE (fbC aKz 2 fi ge st ap ad mu sub sh ng cj sc fn ff pr [(66,bF (.bool false) gc)] []) 60 noL 1 180 fbA (fbE w sv n c x y k) ⟨10,[fbB iv (sl3 7 j),(7,.cells os 4)]++[(0,.cells cs sz)]⟩ (aU fbT [6,7,12] K) =
  fbI ge cs n k (K (.exit 0) (fbE w sv n c x y k) [fbB iv (sl3 7 j),(7,.cells os 4)]) λa1 a2 s1 s2 p=>gc R [w,.int .i64 (k:Int)] ⟨11,[(10,.cells [.int .u8 2,.complex .f64 a1 a2,.complex .f64 s1 s2,.float .f64 p] 0),fbB iv (sl3 7 j),(7,.cells os 4),(0,.cells cs sz)]⟩ (ap R 27 os j j [.int .u8 2,.complex .f64 a1 a2,.complex .f64 s1 s2,.float .f64 p] 0 1 λos=>fi R (K9.i64.wrap (k+1)) λi=>K .normal (fbE w sv n c x y i) [fbB iv (sl3 12 (j+1)),(12,.cells os 4)]):=by kernel_rfl
theorem bLd:bE (fbC oa0 3 fi ge st ap ad mu sub sh ng cj sc fn ff pr [(66,bF (.bool false) gc)] []) 60 noL 1 180 fbA (fbE w sv n c x y k) ⟨10,[fbB iv bL]++[(0,.cells cs sz)]⟩ (aU fbT [6,12] K) =
  fbI ge cs n k (K (.exit 0) (fbE w sv n c x y k) [fbB iv bL]) λa1 a2 s1 s2 p=>gc R [w,.int .i64 (k:Int)] ⟨11,[(10,.cells [.int .u8 3,.complex .f64 a1 a2,.complex .f64 s1 s2,.float .f64 p] 0),fbB iv bL,(0,.cells cs sz)]⟩ (fi R (K9.i64.wrap (k+1)) λi=>K .normal (fbE w sv n c x y i) [fbB iv (sl3 12 1),(12,.cells [.int .u8 3,.complex .f64 a1 a2,.complex .f64 s1 s2,.float .f64 p] 4)]):=by kernel_rfl
theorem bLj:bE (fbC aKz 3 fi ge st ap ad mu sub sh ng cj sc fn ff pr [(66,bF (.bool false) gc)] []) 60 noL 1 180 fbA (fbE w sv n c x y k) ⟨10,[fbB iv (sl3 7 j),(7,.cells os 4)]++[(0,.cells cs sz)]⟩ (aU fbT [6,7,12] K) =
  fbI ge cs n k (K (.exit 0) (fbE w sv n c x y k) [fbB iv (sl3 7 j),(7,.cells os 4)]) λa1 a2 s1 s2 p=>gc R [w,.int .i64 (k:Int)] ⟨11,[(10,.cells [.int .u8 3,.complex .f64 a1 a2,.complex .f64 s1 s2,.float .f64 p] 0),fbB iv (sl3 7 j),(7,.cells os 4),(0,.cells cs sz)]⟩ (ap R 27 os j j [.int .u8 3,.complex .f64 a1 a2,.complex .f64 s1 s2,.float .f64 p] 0 1 λos=>fi R (K9.i64.wrap (k+1)) λi=>K .normal (fbE w sv n c x y i) [fbB iv (sl3 12 (j+1)),(12,.cells os 4)]):=by kernel_rfl
theorem bLf:bE (fbC oa0 4 fi ge st ap ad mu sub sh ng cj sc fn ff pr [(66,bF (.bool false) gc)] []) 60 noL 1 180 fbA (fbE w sv n c x y k) ⟨10,[fbB iv bL]++[(0,.cells cs sz)]⟩ (aU fbT [6,12] K) =
  fbI ge cs n k (K (.exit 0) (fbE w sv n c x y k) [fbB iv bL]) λa1 a2 s1 s2 p=>(fi R (K9.i64.wrap (k+1)) λi=>K .normal (fbE w sv n c x y i) [fbB iv (sl3 12 1),(12,.cells [.int .u8 4,.complex .f64 a1 a2,.complex .f64 s1 s2,.float .f64 p] 4)]):=by kernel_rfl
theorem bLl:bE (fbC aKz 4 fi ge st ap ad mu sub sh ng cj sc fn ff pr [(66,bF (.bool false) gc)] []) 60 noL 1 180 fbA (fbE w sv n c x y k) ⟨10,[fbB iv (sl3 7 j),(7,.cells os 4)]++[(0,.cells cs sz)]⟩ (aU fbT [6,7,12] K) =
  fbI ge cs n k (K (.exit 0) (fbE w sv n c x y k) [fbB iv (sl3 7 j),(7,.cells os 4)]) λa1 a2 s1 s2 p=>(ap R 27 os j j [.int .u8 4,.complex .f64 a1 a2,.complex .f64 s1 s2,.float .f64 p] 0 1 λos=>fi R (K9.i64.wrap (k+1)) λi=>K .normal (fbE w sv n c x y i) [fbB iv (sl3 12 (j+1)),(12,.cells os 4)]):=by kernel_rfl
theorem bY2:bE (fbC oa0 3 fi ge st ap ad mu sub sh ng cj sc fn ff pr [(66,bF (.bool true) gc)] []) 60 noL 1 180 fbA (fbE w sv n c x y k) ⟨10,[fbB bL ov,(4,.cells is 1)]++[(0,.cells cs sz)]⟩ (aU fbT [6,12,4] K) =
  fbI ge cs n k (K (.exit 0) (fbE w sv n c x y k) [fbB bL ov,(4,.cells is 1)]) λa1 a2 s1 s2 p=>gc R [w,.int .i64 (k:Int)] ⟨11,[(10,.cells [.int .u8 3,.complex .f64 a1 a2,.complex .f64 s1 s2,.float .f64 p] 0),fbB bL ov,(4,.cells is 1),(0,.cells cs sz)]⟩ (fi R (K9.i64.wrap (k+1)) λi=>K .normal (fbE w sv n c x y i) [fbB (sl3 12 1) ov,(12,.cells [.int .u8 3,.complex .f64 a1 a2,.complex .f64 s1 s2,.float .f64 p] 4),(4,.cells is 1)]):=by kernel_rfl
theorem bY3:bE (fbC bXw 3 fi ge st ap ad mu sub sh ng cj sc fn ff pr [(66,bF (.bool true) gc)] []) 60 noL 1 180 fbA (fbE w sv n c x y k) ⟨10,[fbB (sl3 8 j) ov,(8,.cells os 4),(4,.cells is 1)]++[(0,.cells cs sz)]⟩ (aU fbT [6,8,12,4] K) =
  fbI ge cs n k (K (.exit 0) (fbE w sv n c x y k) [fbB (sl3 8 j) ov,(8,.cells os 4),(4,.cells is 1)]) λa1 a2 s1 s2 p=>gc R [w,.int .i64 (k:Int)] ⟨11,[(10,.cells [.int .u8 3,.complex .f64 a1 a2,.complex .f64 s1 s2,.float .f64 p] 0),fbB (sl3 8 j) ov,(8,.cells os 4),(4,.cells is 1),(0,.cells cs sz)]⟩ (ap R 27 os j j [.int .u8 3,.complex .f64 a1 a2,.complex .f64 s1 s2,.float .f64 p] 0 1 λos=>fi R (K9.i64.wrap (k+1)) λi=>K .normal (fbE w sv n c x y i) [fbB (sl3 12 (j+1)) ov,(12,.cells os 4),(4,.cells is 1)]):=by kernel_rfl
theorem bR8:bE (fbC oa0 2 fi ge st ap ad mu sub sh ng cj sc fn ff pr [(66,bF (.bool true) gc)] []) 60 noL 1 180 fbA (fbE w bL n c x y k) ⟨10,[fbB bL ov,(4,.cells is 1)]++[(0,.cells cs sz)]⟩ (aU fbT [6,12,14,4] K) =
  fbI ge cs n k (K (.exit 0) (fbE w bL n c x y k) [fbB bL ov,(4,.cells is 1)]) λa1 a2 s1 s2 p=>gc R [w,.int .i64 (k:Int)] ⟨11,[(10,.cells [.int .u8 2,.complex .f64 a1 a2,.complex .f64 s1 s2,.float .f64 p] 0),fbB bL ov,(4,.cells is 1),(0,.cells cs sz)]⟩ (sh R s1 s2 λh1 h2=>fi R (K9.i64.wrap (k+1)) λi=>K .normal (fbE w (sl3 14 1) n c x y i) [fbB (sl3 12 1) ov,(12,.cells [.int .u8 2,.complex .f64 a1 a2,.complex .f64 s1 s2,.float .f64 p] 4),(14,.cells [.complex .f64 h1 h2] 1),(4,.cells is 1)]):=by kernel_rfl
theorem bR9:bE (fbC bXw 2 fi ge st ap ad mu sub sh ng cj sc fn ff pr [(66,bF (.bool true) gc)] []) 60 noL 1 180 fbA (fbE w bL n c x y k) ⟨10,[fbB (sl3 8 j) ov,(8,.cells os 4),(4,.cells is 1)]++[(0,.cells cs sz)]⟩ (aU fbT [6,8,12,14,4] K) =
  fbI ge cs n k (K (.exit 0) (fbE w bL n c x y k) [fbB (sl3 8 j) ov,(8,.cells os 4),(4,.cells is 1)]) λa1 a2 s1 s2 p=>gc R [w,.int .i64 (k:Int)] ⟨11,[(10,.cells [.int .u8 2,.complex .f64 a1 a2,.complex .f64 s1 s2,.float .f64 p] 0),fbB (sl3 8 j) ov,(8,.cells os 4),(4,.cells is 1),(0,.cells cs sz)]⟩ (ap R 27 os j j [.int .u8 2,.complex .f64 a1 a2,.complex .f64 s1 s2,.float .f64 p] 0 1 λos=>sh R s1 s2 λh1 h2=>fi R (K9.i64.wrap (k+1)) λi=>K .normal (fbE w (sl3 14 1) n c x y i) [fbB (sl3 12 (j+1)) ov,(12,.cells os 4),(14,.cells [.complex .f64 h1 h2] 1),(4,.cells is 1)]):=by kernel_rfl
theorem bSa:bE (fbC bTm 2 fi ge st ap ad mu sub sh ng cj sc fn ff pr [(66,bF (.bool true) gc)] []) 60 noL 1 180 fbA (fbE w (sl3 9 l) n c x y k) ⟨10,[fbB (sl3 8 j) ov,(8,.cells os 4),(9,.cells hs 1),(4,.cells is 1)]++[(0,.cells cs sz)]⟩ (aU fbT [6,8,9,12,14,4] K) =
  fbI ge cs n k (K (.exit 0) (fbE w (sl3 9 l) n c x y k) [fbB (sl3 8 j) ov,(8,.cells os 4),(9,.cells hs 1),(4,.cells is 1)]) λa1 a2 s1 s2 p=>gc R [w,.int .i64 (k:Int)] ⟨11,[(10,.cells [.int .u8 2,.complex .f64 a1 a2,.complex .f64 s1 s2,.float .f64 p] 0),fbB (sl3 8 j) ov,(8,.cells os 4),(9,.cells hs 1),(4,.cells is 1),(0,.cells cs sz)]⟩ (ap R 27 os j j [.int .u8 2,.complex .f64 a1 a2,.complex .f64 s1 s2,.float .f64 p] 0 1 λos=>sh R s1 s2 λh1 h2=>ap R 82 hs l l [.complex .f64 h1 h2] 0 1 λhs=>fi R (K9.i64.wrap (k+1)) λi=>K .normal (fbE w (sl3 14 (l+1)) n c x y i) [fbB (sl3 12 (j+1)) ov,(12,.cells os 4),(14,.cells hs 1),(4,.cells is 1)]):=by kernel_rfl
end
noncomputable def fcA:Code:=sI (bB 24) 1
abbrev KAt:=∀R:Type,Nat->Nat->Int->AH->(Nat->Nat->Option R)->Option R
def bNu(g:KAt):vP:=λR args H k=>match args with
 |[.pointer (some ⟨6,0,none⟩),.complex .f64 a1 a2,.int .i64 m]=>g R a1 a2 m H λx y=>k (.complex .f64 x y)
 |_=>none
def fcE(n x y r1 r2:Nat)(k:Int):Env:=[(106,.int .i64 k),(105,.int .i64 n),(104,sl3 8 n),(14,.complex .f64 r1 r2),(9,.pointer (some ⟨6,0,none⟩)),(3,.pointer (some ⟨2,0,none⟩)),(4,.pointer (some ⟨3,0,none⟩)),(6,.complex .f64 x y)]
def fcT:List Nat:=[106,105,104,14,9,3,4,6]
def la8(b:Nat):Bool:=N9 b 8
def fcX(c1 c2 r:Nat):dF:=[(5,.map .u8 aUw),(3,.cells [.complex .f64 0 0,.float .f64 0] 0),(2,.cells [.complex .f64 c1 c2,.float .f64 r] 0)]
def fcO(ov:V9)(is:List V9)(n:Nat)(T:dF)(c1 c2 r:Nat):dF:=[fbB (sl3 8 n) ov,(8,.cells is 4)]++T++fcX c1 c2 r
def elO(kd:Int)(a1 a2 s1 s2 p:Nat):Nat×qQ:=(11,.cells [.int .u8 kd,.complex .f64 a1 a2,.complex .f64 s1 s2,.float .f64 p] 0)
def fcS{R:Type}(sub ad mu:gU)(sh:KCC)(sc:mO)(ga:KAt)(H:Nat->Nat->Nat->Nat->Nat->AH)(c1 c2 r1 r2 a1 a2 s1 s2 p:Nat)(K:KNN R):Option R:=
 sub R a1 a2 c1 c2 λd1 d2=>sh R s1 s2 λh1 h2=>ga R a1 a2 0 (H a1 a2 s1 s2 p) λv1 v2=>xJ mu h1 h2 [(d1,d2),(v1,v2)] λq1 q2=>sc R q1 q2 4611686018427387904 λq1 q2=>ad R r1 r2 q1 q2 K
def fcD{R:Type}(fi:Fi)(sub ad mu:gU)(ng:KCC)(sc:mO)(pr:KPr)(ga:KAt)(H:Nat->Nat->Nat->Nat->Nat->AH)(H2:Nat->Nat->Nat->Nat->Nat->Nat->Nat->AH)(c1 c2 r1 r2 a1 a2 s1 s2 p:Nat)(K:KNN R):Option R:=
 sub R a1 a2 c1 c2 λd1 d2=>(floatToIntVal .f64 p .i64).bind λm=>fi R m λm=>ga R a1 a2 m (H a1 a2 s1 s2 p) λv1 v2=>xJ mu d1 d2 [(v1,v2)] λq1 q2=>
 fi R (K9.i64.wrap (m-1)) λm1=>ga R a1 a2 m1 (H2 a1 a2 s1 s2 p v1 v2) λw1 w2=>sc R w1 w2 p λw1 w2=>ad R q1 q2 w1 w2 λv1 v2=>
 ng R s1 s2 λn1 n2=>xJ mu n1 n2 [(v1,v2)] λq1 q2=>fi R (K9.i64.wrap (m-1)) λm1=>pr R 1 m1 λt=>aM (fbF .quo 4607182418800017408 t) λt=>sc R q1 q2 t λq1 q2=>
 sc R q1 q2 4611686018427387904 λq1 q2=>ad R r1 r2 q1 q2 K
def fcN{R:Type}(ge:aUg)(is:List V9)(n k:Nat)(E:Option R)(X:Nat->Nat->Nat->Nat->Nat->Option R):Option R:=
 bif decide ((k:Int)<n) then bif decide (0<=(k:Int))&&decide ((k:Int)<n)&&true then ge R is (0+k*4) X else none else E
section
variable(fi:Fi)(ge:aUg)(st:St)(ap:Ap)(ad mu sub:gU)(sh ng cj:KCC)(sc:mO)(fn:KCB)(ff:KFB)(pr:KPr)(ga:KAt)(os is:List V9)(n k x y r1 r2 c1 c2 r:Nat)(ov:V9)(R:Type)(K:Ex->Env->dF->Option R)
theorem bSd:bE (fbC la8 2 fi ge st ap ad mu sub sh ng cj sc fn ff pr [(68,bNu ga)] []) 60 noL 1 180 fcA (fcE n x y r1 r2 k) ⟨11,(fcO ov is n [(7,.cells os 4)] c1 c2 r)⟩ (aU fcT [6,8,7,5,3,2] K) =
  fcN ge is n k (K (.exit 2) (fcE n x y r1 r2 k) (fcO ov is n [(7,.cells os 4)] c1 c2 r)) λa1 a2 s1 s2 p=>fcS sub ad mu sh sc ga (λa1 a2 s1 s2 p=>⟨12,elO 2 a1 a2 s1 s2 p::fcO ov is n [(7,.cells os 4)] c1 c2 r⟩) c1 c2 r1 r2 a1 a2 s1 s2 p λr1 r2=>fi R (K9.i64.wrap (k+1)) λi=>K .normal (fcE n x y r1 r2 i) (fcO ov is n [(7,.cells os 4)] c1 c2 r):=by kernel_rfl
theorem bY5:bE (fbC la8 3 fi ge st ap ad mu sub sh ng cj sc fn ff pr [(68,bNu ga)] []) 60 noL 1 180 fcA (fcE n x y r1 r2 k) ⟨11,(fcO ov is n [(7,.cells os 4)] c1 c2 r)⟩ (aU fcT [6,8,7,5,3,2] K) =
  fcN ge is n k (K (.exit 2) (fcE n x y r1 r2 k) (fcO ov is n [(7,.cells os 4)] c1 c2 r)) λa1 a2 s1 s2 p=>fcD fi sub ad mu ng sc pr ga (λa1 a2 s1 s2 p=>⟨12,elO 3 a1 a2 s1 s2 p::fcO ov is n [(7,.cells os 4)] c1 c2 r⟩) (λa1 a2 s1 s2 p v1 v2=>⟨13,(12,.cells [.complex .f64 v1 v2] 0)::elO 3 a1 a2 s1 s2 p::fcO ov is n [(7,.cells os 4)] c1 c2 r⟩) c1 c2 r1 r2 a1 a2 s1 s2 p λr1 r2=>fi R (K9.i64.wrap (k+1)) λi=>K .normal (fcE n x y r1 r2 i) (fcO ov is n [(7,.cells os 4)] c1 c2 r):=by kernel_rfl
theorem bSe:bE (fbC la8 2 fi ge st ap ad mu sub sh ng cj sc fn ff pr [(68,bNu ga)] []) 60 noL 1 180 fcA (fcE n x y r1 r2 k) ⟨11,(fcO ov is n [] c1 c2 r)⟩ (aU fcT [6,8,5,3,2] K) =
  fcN ge is n k (K (.exit 2) (fcE n x y r1 r2 k) (fcO ov is n [] c1 c2 r)) λa1 a2 s1 s2 p=>fcS sub ad mu sh sc ga (λa1 a2 s1 s2 p=>⟨12,elO 2 a1 a2 s1 s2 p::fcO ov is n [] c1 c2 r⟩) c1 c2 r1 r2 a1 a2 s1 s2 p λr1 r2=>fi R (K9.i64.wrap (k+1)) λi=>K .normal (fcE n x y r1 r2 i) (fcO ov is n [] c1 c2 r):=by kernel_rfl
theorem bY6:bE (fbC la8 3 fi ge st ap ad mu sub sh ng cj sc fn ff pr [(68,bNu ga)] []) 60 noL 1 180 fcA (fcE n x y r1 r2 k) ⟨11,(fcO ov is n [] c1 c2 r)⟩ (aU fcT [6,8,5,3,2] K) =
  fcN ge is n k (K (.exit 2) (fcE n x y r1 r2 k) (fcO ov is n [] c1 c2 r)) λa1 a2 s1 s2 p=>fcD fi sub ad mu ng sc pr ga (λa1 a2 s1 s2 p=>⟨12,elO 3 a1 a2 s1 s2 p::fcO ov is n [] c1 c2 r⟩) (λa1 a2 s1 s2 p v1 v2=>⟨13,(12,.cells [.complex .f64 v1 v2] 0)::elO 3 a1 a2 s1 s2 p::fcO ov is n [] c1 c2 r⟩) c1 c2 r1 r2 a1 a2 s1 s2 p λr1 r2=>fi R (K9.i64.wrap (k+1)) λi=>K .normal (fcE n x y r1 r2 i) (fcO ov is n [] c1 c2 r):=by kernel_rfl
end
end Go.Vm
