/- A part; no conditions. -/
import Derived.Test.YtaogignikkjkjaaGreatVmWN0
set_option maxRecDepth 1000000
set_option maxHeartbeats 1000000
set_option linter.all false
open Go.Vx.Cp renaming of->C9,zero->Z9,one->O9,ext'->E9,sub_re->S9,sub_im->T9
open Rat renaming le_refl->R9
open Go renaming floatOfInt->U9
namespace Go.Vx
open Go.Vm Ieee
def aV7(r:Rat):Prop:=r=0\/(2:Rat)^(-180:Int)<=r
theorem bIj{a b:Nat}{V:Cp}(iV:IsZ a b V){B:Rat}(nV:Nm V B)(B1:1<=B)(B2:B<=(2:Rat)^(400:Int))(low:V=Z9\/Ng V ((2:Rat)^(-150:Int))):
  ∃w L,Is w L/\0<=L/\L<=2*B/\Nm V (1015/1000*L)/\aV7 L/\∀(R:Type)(k:KNO R),cQ R a b k=k w:=by
 have p3:=bG (-150);have lo:(V.re=0/\V.im=0)\/(2:Rat)^(-800:Int)<=V.re.abs\/(2:Rat)^(-800:Int)<=V.im.abs:=by
  rcases low with h|h;· left;rw[h];exact⟨rfl,rfl⟩
  ·right;obtain⟨W,_,_,w3,w4,_⟩:=aBg h nV;have e:=fA (-150);rw[show(-150-1:Int)=-151 by decide]at e;have q:=cY (show(-800:Int)<=-151 by decide);rcases w3 with h|h
   ·left;rw[<-h];grind
   ·right;rw[<-h];grind
 obtain⟨w,L,iL,L0,L2,q1,q2,hL⟩:=aCe iV.1 iV.2 nV.re nV.im (cR (cR (cY (show(-900:Int)<=0 by decide)) (by rw[Rat.zpow_zero];exact R9)) B1) B2 lo;refine⟨w,L,iL,L0,L2,⟨bU (by decide +kernel) L0,?_⟩,?_,hL⟩;· show V.re*V.re+V.im*V.im<=_;have:=bU L0 L0;grind
 ·rcases low with h|h
  ·left;rw[h]at q2;have:L*L<=0:=by have z1:Cp.zero.re=0:=rfl;have z2:Cp.zero.im=0:=rfl;rw[z1,z2]at q2;grind
   refine Rat.le_antisymm (Rat.not_lt.1 λhl=>?_) L0;have:=Rat.mul_pos hl hl;grind
  ·right;have h2:=h.2;have e:V.nsq=V.re*V.re+V.im*V.im:=rfl;rw[e]at h2;refine Rat.not_lt.1 λhl=>?_
   have k1:=aC (bN hl) (bN hl) L0 (bN (bG (-180)));grind
theorem aPu:(2:Rat)^(-150:Int)<=1/10*(1/8192)^9/2:=by
 have h:=cY (show(-150:Int)<=-122 by decide);have e:=jG 122;rw[show(2:Rat)^(122:Int)=5316911983139663491615228241121378304 by rw[show(122:Int)=((122:Nat):Int) by rfl,cN];rfl]at e;have e2:(2:Rat)^(-122:Int)=1/5316911983139663491615228241121378304:=by grind
 rw[e2]at h;refine cR h ?_;decide +kernel
theorem bFn{V C E:Cp}{m:Nat}(hm:m<=9)(hC:C=Z9\/Ng C (1/10))(nE:Nm E rD)(gE:Ng E mD)(hV:Rl V (C*E.inv.pw m) (100*eps)):V=Z9\/Ng V ((2:Rat)^(-150:Int)):=by
 have et:=bR;rcases hC with h|h;· exact .inl (hV.zero (by rw[h,Cp.zero_mul]))
 ·right;obtain⟨_,i2⟩:=sC gE aAa nE (by unfold rD;decide +kernel);have i3:Ng E.inv (1/8192):=i2.mono (by decide +kernel) (by unfold rD;decide +kernel);have g:=h.mul (yR i3 m);have g2:=hV.ng g (by grind);refine g2.mono (bN (bG _)) (cR aPu ?_);have p:((1:Rat)/8192)^9<=(1/8192)^m:=by
   have:∀j:Nat,((1:Rat)/8192)^(m+j)<=(1/8192)^m:=λj=>by
    induction j with
    |zero=>exact R9
    |succ j ih=>rw[<-Nat.add_assoc,Rat.pow_succ];have p0:(0:Rat)<=(1/8192)^(m+j):=Rat.pow_nonneg (by decide +kernel);have:=dI (show(1:Rat)/8192<=1 by decide +kernel) p0;grind
   have:=this (9-m);rwa[show m+(9-m)=9 by omega]at this
  have:=dI p (show(0:Rat)<=1/10 by decide +kernel);grind
theorem bAm{V C E:Cp}{m:Nat}(hm:m<=9)(nC:Nm C 20000)(gE:Ng E (4/10))(hV:Rl V (C*E.inv.pw m) (100*eps)):Nm V 200000000:=by have et:=bR;obtain⟨i1,_⟩:=sC gE (by decide +kernel) (r:=E.nsq+1) ⟨by have:=E.nsq_nonneg;grind,by have:=E.nsq_nonneg;have:=bU this this;grind⟩ (by have:=E.nsq_nonneg;grind);have i2:Nm E.inv (5/2):=i1.mono (by decide +kernel);have a:=hV.nm (nC.mul (xV i2 m)) (by grind);refine a.mono ?_;have p:((5:Rat)/2)^m<=(5/2)^9:=eU (by decide +kernel) hm;have:=dI p (show(0:Rat)<=20000 by decide);refine cR (dI this (by decide)) (by decide +kernel)
theorem aUq{V C E:Cp}{m:Nat}(hm:m<=3)(hC:C=Z9\/Ng C (1/10))(gE:Ng E (1/8192/8192))(hV:Rl V (C*E.pw m) (100*eps)):V=Z9\/Ng V ((2:Rat)^(-150:Int)):=by
 have et:=bR;rcases hC with h|h;· exact .inl (hV.zero (by rw[h,Cp.zero_mul]))
 ·right;have g:=h.mul (yR gE m);have g2:=hV.ng g (by grind);refine g2.mono (bN (bG _)) (cR aPu ?_)
  match m,hm with
  |0,_=>rw[Rat.pow_zero];decide +kernel
  |1,_=>decide +kernel
  |2,_=>decide +kernel
  |3,_=>decide +kernel
theorem aOc{V C E:Cp}{m:Nat}(hm:m<=3)(nC:Nm C 20000)(nE:Nm E rD)(hV:Rl V (C*E.pw m) (100*eps)):Nm V 100000000000000000:=by have et:=bR;have a:=hV.nm (nC.mul (xV nE m)) (by grind);refine a.mono ?_;have p:rD^m<=rD^3:=eU yA hm;have:=dI p (show(0:Rat)<=20000 by decide);refine cR (dI this (by decide)) (by unfold rD;decide +kernel)
open Go.Vm Go.Proofs Ieee
theorem bIm{q:Nat->Nat×Nat}{n k:Nat}{z:Nat×Nat}(h:(lst q n)[k]?=some z):k<n/\z=q k:=by
 unfold lst at h;rw[List.getElem?_map]at h;cases hr:(List.range n)[k]? with
 |none=>rw[hr]at h;cases h
 |some j=>rw[hr]at h;obtain⟨hlt,hq⟩:=List.getElem?_eq_some_iff.1 hr;rw[List.getElem_range]at hq;rw[List.length_range]at hlt;subst hq;exact⟨hlt,(Option.some.inj h).symm⟩
theorem aFv{q g:Nat->Nat×Nat}{n:Nat}(h0:g 0=(0,0))(h1:0<n->g 1=q 0)(h2:∀k,0<k->k<n->aWh (g k) (q k) (g (k+1))):aGf (lst q n) g where
 zero:=h0
 one:=λz hz=>by
  obtain⟨a,b⟩:=bIm hz;rw[b];exact h1 a
 step:=λk z hk hz=>by obtain⟨a,b⟩:=bIm hz;subst b;exact h2 k hk a
theorem aRs{g q:Nat->Nat×Nat}{n:Nat}(h2:∀k,0<k->k<n->aWh (g k) (q k) (g (k+1))):∀(j k:Nat),0<k->k+j=n->∀(R:Type)(K:KNN R),aYl jJ (g k).1 (g k).2 ((List.range' k j).map q) K=K (g n).1 (g n).2
 |0,k,_,e,R,K=>by
  have:k=n:=by omega
  subst this;rfl
 |j+1,k,hk,e,R,K=>by show jJ R (g k).1 (g k).2 (q k).1 (q k).2 (λx y=>aYl jJ x y ((List.range' (k+1) j).map q) K)=_;rw[h2 k hk (by omega)];exact aRs h2 j (k+1) (by omega) (by omega) R K
theorem bBg{xs:List El}{z1 z2:Nat}{v:Nat->Nat×Nat}(hv:∀i,i<xs.length->∀(R:Type)(k:vT R),spdK R (rG xs i).kind (rG xs i).a1 (rG xs i).a2 (rG xs i).s1 (rG xs i).s2 (rG xs i).p z1 z2 k=k (v i).1 (v i).2 0)(R:Type)(k:vT R):
  ∀(m i:Nat)(l:List (Nat×Nat)),i+m=xs.length->bQs spdK jJ aP (rG xs) z1 z2 k m i l=bGa jJ (l.reverse++(List.range' i m).map v) λx y=>aP R x y λt=>bif t then k x y 0 else k 0 0 6
 |0,i,l,h=>by show bGa jJ l.reverse _=bGa jJ (l.reverse++[]) _;rw[List.append_nil]
 |m+1,i,l,h=>by show spdK R (rG xs i).kind (rG xs i).a1 (rG xs i).a2 (rG xs i).s1 (rG xs i).s2 (rG xs i).p z1 z2 (λa b e=>bif e != 0 then k 0 0 e else bQs spdK jJ aP (rG xs) z1 z2 k m (i+1) ((a,b)::l))=_;rw[hv i (by omega)];show bQs spdK jJ aP (rG xs) z1 z2 k m (i+1) (((v i).1,(v i).2)::l)=_;rw[bBg hv R k m (i+1) _ (by omega)];congr 1;show(v i::l).reverse++_=_;rw[List.reverse_cons,List.append_assoc];rfl
theorem bN5{xs:List El}{z1 z2:Nat}{v g:Nat->Nat×Nat}(h0:0<xs.length)(hv:∀i,i<xs.length->∀(R:Type)(k:vT R),spdK R (rG xs i).kind (rG xs i).a1 (rG xs i).a2 (rG xs i).s1 (rG xs i).s2 (rG xs i).p z1 z2 k=k (v i).1 (v i).2 0)(h1:g 1=v 0)(h2:∀k,0<k->k<xs.length->aWh (g k) (v k) (g (k+1))){S:Cp}(iS:IsZ (g xs.length).1 (g xs.length).2 S):bJz xs z1 z2 (g xs.length).1 (g xs.length).2:=λR k=>by
 rw[bBg hv R k xs.length 0 [] (by omega)];obtain⟨m,hm⟩:∃m,xs.length=m+1:=⟨xs.length-1,by omega⟩;have e:([]:List (Nat×Nat)).reverse++(List.range' 0 xs.length).map v=v 0::(List.range' 1 m).map v:=by rw[hm];rfl
 rw[e];show aYl jJ (v 0).1 (v 0).2 ((List.range' 1 m).map v) _=_;rw[<-h1,aRs (n:=xs.length) h2 m 1 (by omega) (by omega),nK iS.1 iS.2,T7]
theorem bWz{z w:Cp}(hz:Nm z lD)(hw:Nm w lD)(e:z*w=O9):(z.nsq-1).abs<=1/1000000000:=by
 have e2:z.nsq*w.nsq=1:=by rw[<-Cp.nsq_mul,e];unfold Cp.nsq;simp only[Cp.one_re,Cp.one_im];grind
 have r2:lD*lD<=1+1/10000000000:=by have a:=uJ;have c:=yT;have:=aC a a (cR (by decide) c) (by decide +kernel);refine cR this ?_;decide +kernel
 have a:=cR hz.2 r2;have b:=cR hw.2 r2;have z0:=z.nsq_nonneg;refine aA.2 ⟨?_,by grind⟩;have:=dI b z0;rw[e2]at this;grind
section
variable{cx cy r:Int}{hs:List Th}{n:Int}{S:jO (fI cx) (fI cy) (fI r)}
theorem bF2(g:Vm.Good S hs n){h:Th}(hm:h∈hs)(hk:h.kind=2\/h.kind=3):(leF (S.lw h.el) (xU (fI r))=true/\Nm (gmm cx cy r h) (5075/10000))\/(leF (S.lw h.el) (xU (fI r))=false/\Ng (gmm cx cy r h) (197058/100000)):=by
 have w:=g.well h hm;unfold aNl at w;have k1:(h.el.kind==1)=false:=by show(h.kind==1)=false;rcases hk with e|e<;>rw[e]<;>rfl
 have k4:(h.el.kind==4)=false:=by show(h.kind==4)=false;rcases hk with e|e<;>rw[e]<;>rfl
 rw[k1,k4,Bool.false_or,Bool.false_or]at w;cases e:leF (S.lw h.el) (xU (fI r)) with
 |true=>exact .inl ⟨rfl,aY4 g hm e⟩
 |false=>rw[e,Bool.false_or]at w;exact .inr ⟨rfl,aVo g hm w⟩
theorem bHu(g:Vm.Good S hs n){h:Th}(hm:h∈hs)(hk:h.kind≠1){z w:Cp}(hz:Nm z lD)(hw:Nm w lD)(e:z*w=O9):Ng (z-gmm cx cy r h) (3/10000000):=by
 have one:=bWz hz hw e;have zlow:Ng z (999/1000):=by refine⟨by decide +kernel,?_⟩;have:=aA.1 one;grind
 have zhigh:Nm z (101/100):=hz.mono (by have:=uJ;grind);have pole:(h.kind=2\/h.kind=3)->Ng (z-gmm cx cy r h) (3/10000000):=λhk=>by
  rcases bF2 g hm hk with ⟨_,a⟩|⟨_,a⟩;· have:=oG zlow a.neg (by decide +kernel);rw[<-Cp.sub_eq]at this;exact this.mono (by decide +kernel) (by decide +kernel)
  ·have:=oG (aZz a) zhigh (by decide +kernel);rw[show -gmm cx cy r h+z=z-gmm cx cy r h by rw[Cp.sub_eq,Cp.add_comm]]at this;exact this.mono (by decide +kernel) (by decide +kernel)
 rcases aOw g hm with k|k|⟨k,_⟩|⟨k,_⟩;· exact absurd k hk
 ·exact pole (.inl k)
 ·exact pole (.inr k)
 ·exact bNa one (aUr g hm k)
end
instance:Inhabited Cp:=⟨Z9⟩
theorem pick{α:Type}[Inhabited α]{n:Nat}{p:Nat->α->Prop}(h:∀k,k<n->∃x,p k x):∃f:Nat->α,∀k,k<n->p k (f k):=
 ⟨λk=>if hk:k<n then Classical.choose (h k hk) else default,λk hk=>by simp only[dif_pos hk];exact Classical.choose_spec (h k hk)⟩
theorem bSi{p r s:Rat}(h:r=0\/p<=r)(g:s=0\/p<=s)(r0:0<=r)(s0:0<=s):r+s=0\/p<=r+s:=by grind
theorem wD{p:Rat}{f:Nat->Rat}:∀{n:Nat},(∀k,k<n->0<=f k/\(f k=0\/p<=f k))->rsm f n=0\/p<=rsm f n
 |0,_=>.inl rfl
 |n+1,h=>bSi (wD (n:=n) λk hk=>h k (by omega)) (h n (by omega)).2 (eZ λk hk=>(h k (by omega)).1) (h n (by omega)).1
theorem kB{p c r:Rat}(hc:1<=c)(r0:0<=r)(h:r=0\/p<=r):c*r=0\/p<=c*r:=by
 rcases h with h|h;· left;rw[h];grind
 ·right;have:=cG hc r0;grind
theorem aI1{r:Rat}(h:aV7 r):Fit r:=by
 rcases h with h|h;· exact .inl h
 ·exact .inr (cR (cY (by decide)) h)
theorem aI0{r s:Rat}(h:aV7 r)(g:aV7 s):r*s=0\/(2:Rat)^(-380:Int)<=r*s:=by
 rcases h with h|h;· left;rw[h];grind
 rcases g with g|g;· left;rw[g];grind
 right;have e:=aC h g (bN (bG _)) (cR (bN (bG (-180))) h);rw[<-bO,show(-180+-180:Int)=-360 by decide]at e;exact cR (cY (by decide)) e
theorem tG{a b c:Nat}{A:Cp}{F r:Rat}(hA:IsZ a b A)(hF:Is c F)(rA:Nm A r)(fB:Fit (r*F.abs))(hB:r*F.abs<=iG):
  ∃p q P,IsZ p q P/\Nm (P-C9 F*A) (eps/2*(r*F.abs))/\∀(R:Type)(k:KNN R),eQ R a b c k=k p q:=by
 have ep:=bI;have f0:=aH F;have b1:(A.re*F).abs<=r*F.abs:=by rw[bD];exact cG rA.re f0
 have b2:(A.im*F).abs<=r*F.abs:=by rw[bD];exact cG rA.im f0
 obtain⟨p,X,e1,i1,r1⟩:=wI hA.1 hF b1 fB hB;obtain⟨q,Y,e2,i2,r2⟩:=wI hA.2 hF b2 fB hB;refine⟨p,q,⟨X,Y⟩,⟨i1,i2⟩,?_,λR k=>by unfold eQ;rw[aK e1,aK e2]⟩;have g:=vG (a:=(⟨X,Y⟩:Cp)-C9 F*A) (r:=eps/4*(r*F.abs)) (by
  rw[Cp.of_mul];show(X-F*A.re).abs<=_;rw[show F*A.re=A.re*F by grind];exact r1) (by
  rw[Cp.of_mul];show(Y-F*A.im).abs<=_;rw[show F*A.im=A.im*F by grind];exact r2)
 refine g.mono ?_;have:=bU rA.1 f0;have:=bU (bN ep) this;grind
theorem bOi{N:Nat}{v:Nat->Nat×Nat}{V:Nat->Cp}{l:Nat->Rat}(N6:N<=6)(hv:∀i,i<N->IsZ (v i).1 (v i).2 (V i))(hl:∀i,i<N->Nm (V i) (l i))(fl:∀i,i<N->aV7 (l i))(hb:2*rsm l N<=iG):
  ∃(g:Nat->Nat×Nat)(S:Cp),g 0=(0,0)/\(0<N->g 1=v 0)/\(∀i,0<i->i<N->aWh (g i) (v i) (g (i+1)))/\IsZ (g N).1 (g N).2 S/\Nm (S-csm V N) (6*eps*rsm l N)/\Nm S (1001/1000*rsm l N):=by
 have ep:=bI;have et:=bR;have l0:∀i,i<N->0<=l i:=λi hi=>(hl i hi).1
 have r0:=eZ l0;obtain⟨g,g0,g1,g2,g3⟩:=aAv (B:=rsm l N) (by omega) hv hl R9 (aI1 (wD λi hi=>⟨l0 i hi,fl i hi⟩)) hb;obtain⟨S,i1,d⟩:=g3 N (Nat.le_refl N);have n6:(N:Rat)<=6:=by exact_mod_cast N6
 have d2:Nm (S-csm V N) (6*eps*rsm l N):=d.mono (by have e0:=bU (bN ep) r0;have:=cG n6 e0;grind);refine⟨g,S,g0,g1,g2,i1,d2,(d2.near (jE hl)).mono ?_⟩;have:=cG et r0;grind
theorem bMn{N:Nat}{w:Nat->Nat}{L:Nat->Rat}(N6:N<=6)(hw:∀i,i<N->Is (w i) (L i))(h0:∀i,i<N->0<=L i)(fl:∀i,i<N->aV7 (L i))(hb:2*rsm L N<=iG):
  ∃(g:Nat->Nat)(S:Rat),g 0=0/\(∀i,i<N->fbF .add (g i) (w i)=some (g (i+1)))/\Is (g N) S/\(S-rsm L N).abs<=6*eps*rsm L N:=by
 have ep:=bI;have r0:=eZ h0;obtain⟨g,g0,g1,g2⟩:=aNe (B:=rsm L N) (by omega) hw h0 R9 (aI1 (wD λi hi=>⟨h0 i hi,fl i hi⟩)) hb;obtain⟨S,i1,d⟩:=g2 N (Nat.le_refl N);have n6:(N:Rat)<=6:=by exact_mod_cast N6
 refine⟨g,S,g0,g1,i1,?_⟩;have e0:=bU (bN ep) r0;have:=cG n6 e0;grind
theorem aAx{a b:Nat}{D:Cp}(h:IsZ a b D):∃t,IsZ t a (Cp.I*D)/\∀(R:Type)(k:KNN R),jV R a b k=k t a:=
 ⟨_,⟨by
  have:=wJ h.2;rw[show(Cp.I*D).re=-D.im by show 0*D.re-1*D.im=_;grind];exact this,by
  rw[show(Cp.I*D).im=D.re by show 0*D.im+1*D.re=_;grind];exact h.1⟩,λR k=>by unfold jV;rw[cB]⟩
theorem bM5:Nm Cp.I 1:=⟨by decide,by show(0:Rat)*0+1*1<=1*1;grind⟩
theorem aNf{u d:Nat×Nat}{U D:Cp}{ρ R:Rat}(iU:IsZ u.1 u.2 U)(iD:IsZ d.1 d.2 D)(nU:Nm U ρ)(fρ:Fit ρ)(bρ:40000*ρ+1<=iG)(nD:Nm D (1001/1000*R))(R1:1<=R)(R2:R<=2000):
  ∃(q:Nat×Nat)(P:Cp),IsZ q.1 q.2 P/\Nm (P-U*(Cp.I*D)) (1002/1000*eps*(ρ*R))/\Nm P (1002/1000*(ρ*R))/\∀(T:Type)(K:KNN T),(jV T d.1 d.2 λt1 t2=>dV T u.1 u.2 t1 t2 K)=K q.1 q.2:=by
 have ep:=bI;have et:=bR;obtain⟨t,iT,hT⟩:=aAx iD;have ρ0:=nU.1;have nT:Nm (Cp.I*D) (1001/1000*R):=(bM5.mul nD).mono (by grind);have pR:=bU ρ0 (show 0<=R by grind);have pb:=dI R2 ρ0;obtain⟨p,q,P,iP,dP,hP⟩:=mY iU iT nU nT (by grind) fρ (.inr (cR (cR (cY (show(-400:Int)<=0 by decide)) (by rw[Rat.zpow_zero];exact R9)) (show 1<=1001/1000*R by grind)));have e0:=bU (bN ep) pR;have d2:Nm (P-U*(Cp.I*D)) (1002/1000*eps*(ρ*R)):=dP.mono (by grind);refine⟨(p,q),P,iP,d2,(d2.near (nU.mul nT)).mono ?_,λT K=>by rw[hT,hP]⟩;have:=cG et pR;grind
theorem wW{f g:Nat->Cp}{r:Nat->Rat}{n:Nat}(h:∀k,k<n->Nm (f k-g k) (r k)):Nm (csm f n-csm g n) (rsm r n):=by rw[<-tJ];exact jE h
theorem aIz{r:Rat}(h:r=0\/(2:Rat)^(-380:Int)<=r):Fit r:=by
 rcases h with h|h;· exact .inl h
 ·exact .inr (cR (cY (by decide)) h)
theorem bLy{c r:Rat}(hc:1/1000000<=c)(h:r=0\/(2:Rat)^(-380:Int)<=r):Fit (c*r):=by
 rcases h with h|h;· left;rw[h];grind
 ·right;have e:=aC hc h (bN (bG (-380))) (cR (by decide +kernel) hc);have e2:(2:Rat)^(-400:Int)=(2:Rat)^(-380:Int)*(2:Rat)^(-20:Int):=by rw[<-bO];rfl
  rw[e2,aPt];have:=bG (-380);generalize (2:Rat)^(-380:Int)=p at *
  grind
theorem aAr{f g:Nat->Rat}:∀{n:Nat},(∀k,k<n->f k=g k)->rsm f n=rsm g n
 |0,_=>rfl
 |n+1,h=>by simp only[rsm];rw[aAr (n:=n) λk hk=>h k (by omega),h n (by omega)]
theorem bGe{n:Nat}(n1:128<=n)(n2:n<=512):∃t T τ,fbF .quo 4618760256179416344 (U9 .f64 (n:Int))=some t/\Is t T/\τ*(n:Rat)=eJ/\(T-τ).abs<=eps/2*τ/\0<τ/\τ<=1/20/\1/100<=τ:=by
 have a1:(128:Rat)<=(n:Rat):=by exact_mod_cast n1
 have a2:(n:Rat)<=512:=by exact_mod_cast n2
 have hn:Is (U9 .f64 (n:Int)) (((n:Int)):Rat):=pL (by omega);have en:(((n:Nat):Int):Rat)=(n:Rat):=by norm_cast
 rw[en]at hn;have p1:=aS9;have p2:=aCj;have hτ:eJ/(n:Rat)*(n:Rat)=eJ:=Rat.div_mul_cancel (by grind);have t1:eJ/(n:Rat)<=1/20:=aHa (by grind) (by grind);have t2:1/100<=eJ/(n:Rat):=bIh (by grind) (by grind);obtain⟨t,T,e,i,q⟩:=tU bH9 hn (by grind) (bMs (aA.2 ⟨by grind,by grind⟩));refine⟨t,T,_,e,i,hτ,aTl q (aA.2 ⟨by grind,R9⟩) (cR mZ (by grind)),by grind,t1,t2⟩
theorem aFw{n:Nat}(n1:128<=n)(n2:n<=512){q:Nat->Nat×Nat}{Q:Nat->Cp}{ρ:Nat->Rat}{m:Rat}(iQ:∀k,k<n->IsZ (q k).1 (q k).2 (Q k))(nQ:∀k,k<n->Nm (Q k) (ρ k))(fρ:∀k,k<n->ρ k=0\/(2:Rat)^(-380:Int)<=ρ k)(bρ:∀k,k<n->ρ k<=100000000000000000000000000000000000000000000000000)(hm:rsm ρ n=(n:Rat)*m):
  ∃(g:Nat->Nat×Nat)(t a b:Nat)(A:Cp),g 0=(0,0)/\(0<n->g 1=q 0)/\(∀k,0<k->k<n->aWh (g k) (q k) (g (k+1)))/\fbF .quo 4618760256179416344 (U9 .f64 (n:Int))=some t/\
   (∀(R:Type)(K:KNN R),eQ R (g n).1 (g n).2 t K=K a b)/\IsZ a b A/\Nm A (1002/1000*(eJ*m))/\∃τ:Rat,τ*(n:Rat)=eJ/\0<τ/\Nm (A-C9 τ*csm Q n) (eJ*m*(520*eps)):=by
 have ep:=bI;have et:=bR;have a2:(n:Rat)<=512:=by exact_mod_cast n2
 have hb:=bZ;have ρ0:∀k,k<n->0<=ρ k:=λk hk=>(nQ k hk).1
 have nm0:0<=(n:Rat)*m:=by rw[<-hm];exact eZ ρ0
 have nmb:(n:Rat)*m<=51200000000000000000000000000000000000000000000000000:=by rw[<-hm];have:=pP (f:=ρ) (g:=λ_=>100000000000000000000000000000000000000000000000000) bρ;rw[kC]at this;have:=cG a2 (show(0:Rat)<=100000000000000000000000000000000000000000000000000 by decide);grind
 have fs:rsm ρ n=0\/(2:Rat)^(-380:Int)<=rsm ρ n:=wD λk hk=>⟨ρ0 k hk,fρ k hk⟩
 obtain⟨g,g0,g1,g2,g3⟩:=aAv (q:=q) (A:=Q) (n:=n) (B:=rsm ρ n) (by omega) iQ nQ R9 (aIz fs) (by rw[hm,hb];grind);obtain⟨SS,iS,dS⟩:=g3 n (Nat.le_refl n);have bS:=jE nQ;rw[hm]at dS bS fs;obtain⟨t,T,τ,e,iT,ht,dτ,t0,t1,t2⟩:=bGe n1 n2;have ht4:=aA.1 dτ;have eτ:=cG et (bN t0);have Tp:T.abs=T:=fZ (by grind);generalize hx:(n:Rat)*m=x at *
 have ex:=bU (bN ep) nm0;have nex:=cG a2 ex;have eex:=cG et nm0;have nS:Nm SS (1001/1000*x):=(dS.near bS).mono (by grind);have fT:Fit (1001/1000*x*T.abs):=by rw[Tp,show 1001/1000*x*T=1001/1000*T*x by grind];exact bLy (by grind) fs
 obtain⟨a,b,A,iA,dA,hA⟩:=tG iS iT nS fT (by rw[Tp,hb];have:=aC (show 1001/1000*x<=60000000000000000000000000000000000000000000000000000 by grind) (show T<=1 by grind) (by grind) (by decide);grind);suffices key:Nm (A-C9 τ*csm Q n) (eJ*m*(520*eps)) by
  refine⟨g,t,a,b,A,g0,g1,g2,e,hA,iA,?_,τ,ht,t0,key⟩;have k0:Nm (C9 τ*csm Q n) (τ*x):=(oV (by rw[fZ (bN t0)];exact R9)).mul bS;refine(key.near k0).mono ?_;have e1:eJ*m=τ*x:=by rw[<-ht,<-hx];grind
  rw[e1];have y0:=bU (bN t0) nm0;have:=cG et y0;generalize τ*x=y at *
  clear dA iA hA nS bS dS iS g1 g2 g3 key k0;grind
 have k1:Nm (C9 (T-τ)*SS) (eps/2*τ*(1001/1000*x)):=(oV dτ).mul nS;have k2:Nm (C9 τ*(SS-csm Q n)) (τ*((n:Rat)*(eps*x))):=(oV (by rw[fZ (bN t0)];exact R9)).mul dS;have k3:=dA.add (k1.add k2);have ee:A-C9 T*SS+(C9 (T-τ)*SS+C9 τ*(SS-csm Q n))=A-C9 τ*csm Q n:=by
  generalize csm Q n=X;refine E9 ?_ ?_;· simp only[Cp.add_re,S9,Cp.of_mul];grind
  ·simp only[Cp.add_im,T9,Cp.of_mul];grind
 rw[ee]at k3;refine k3.mono ?_;rw[Tp,show eJ*m*(520*eps)=520*(τ*(eps*x)) by rw[<-ht,<-hx];grind];have T2:T<=1001/1000*τ:=by grind
 have u1:=dI T2 ex;have u2:=dI nex (bN t0);have u3:=bU (bN t0) ex;clear dA iA hA nS bS dS iS g1 g2 g3 k1 k2 k3 ee;have v1:eps/2*(1001/1000*x*T)=1001/2000*(eps*x*T):=by grind
 have v2:eps/2*τ*(1001/1000*x)=1001/2000*(τ*(eps*x)):=by grind
 rw[v1,v2];grind
theorem bQz(U D:Cp)(R:Rat):U*(Cp.I*(C9 R*D))=Cp.I*C9 R*(D*U):=by
 refine E9 ?_ ?_;· simp only[Cp.mul_re,Cp.mul_im,Cp.of_re,Cp.of_im];grind
 ·simp only[Cp.mul_re,Cp.mul_im,Cp.of_re,Cp.of_im];grind
theorem aFj{n:Nat}(n1:128<=n)(n2:n<=512){u d:Nat->Nat×Nat}{U D z:Nat->Cp}{ρ:Nat->Rat}{R m:Rat}(iU:∀k,k<n->IsZ (u k).1 (u k).2 (U k))(iD:∀k,k<n->IsZ (d k).1 (d k).2 (D k))(nU:∀k,k<n->Nm (U k) (ρ k))(fρ:∀k,k<n->ρ k=0\/(2:Rat)^(-380:Int)<=ρ k)(bρ:∀k,k<n->ρ k<=1000000000000000000000000000000000000000000)(nD:∀k,k<n->Nm (D k) (1001/1000*R))(R1:1<=R)(R2:R<=2000)(hm:rsm ρ n=(n:Rat)*m)(hz:∀k,k<n->D k=C9 R*z k):
  ∃(q g:Nat->Nat×Nat)(a b:Nat)(A:Cp),(∀k,k<n->∀(T:Type)(K:KNN T),(jV T (d k).1 (d k).2 λt1 t2=>dV T (u k).1 (u k).2 t1 t2 K)=K (q k).1 (q k).2)/\g 0=(0,0)/\(0<n->g 1=q 0)/\(∀k,0<k->k<n->aWh (g k) (q k) (g (k+1)))/\
   (∀(T:Type)(K:bW6 T),(aM (fbF .mul 4611686018427387904 4614256656552045848) λa=>bH (U9 .f64 (n:Int)) λb=>aM (fbF .quo a b) λt=>eQ T (g n).1 (g n).2 t λu v=>aP T u v λt=>K u v t)=K a b true)/\IsZ a b A/\
   ∃τ:Rat,τ*(n:Rat)=eJ/\0<τ/\Nm (A-C9 τ*(Cp.I*C9 R*csm (λk=>z k*U k) n)) (eJ*(R*m)*(523*eps)):=by
 have ep:=bI;have hb:=bZ;obtain⟨qP,hq⟩:=pick (α:=(Nat×Nat)×Cp) (n:=n) (p:=λk x=>IsZ x.1.1 x.1.2 x.2/\Nm (x.2-U k*(Cp.I*D k)) (1002/1000*eps*(ρ k*R))/\Nm x.2 (1002/1000*(ρ k*R))/\∀(T:Type)(K:KNN T),(jV T (d k).1 (d k).2 λt1 t2=>dV T (u k).1 (u k).2 t1 t2 K)=K x.1.1 x.1.2)
  (λk hk=>by obtain⟨q,P,h1,h2,h3,h4⟩:=aNf (iU k hk) (iD k hk) (nU k hk) (aIz (fρ k hk)) (by have:=bρ k hk;rw[hb];grind) (nD k hk) R1 R2;exact⟨(q,P),h1,h2,h3,h4⟩)
 have ρ0:∀k,k<n->0<=ρ k:=λk hk=>(nU k hk).1
 have sR:rsm (λk=>ρ k*R) n=(n:Rat)*(R*m):=by rw[aAr λk _=>Rat.mul_comm (ρ k) R,jD,hm];grind
 obtain⟨g,t,a,b,A,g0,g1,g2,e,hA,iA,_,τ,ht,t0,dA⟩:=aFw n1 n2 (q:=λk=>(qP k).1) (Q:=λk=>(qP k).2) (ρ:=λk=>1002/1000*(ρ k*R)) (m:=1002/1000*(R*m)) (λk hk=>(hq k hk).1) (λk hk=>(hq k hk).2.2.1) (λk hk=>by
   rw[show 1002/1000*(ρ k*R)=1002/1000*R*ρ k by grind];exact kB (by grind) (ρ0 k hk) (fρ k hk)) (λk hk=>by
   have:=aC (bρ k hk) R2 (show 0<=R by grind) (by decide);grind) (by rw[jD,sR];grind)
 refine⟨λk=>(qP k).1,g,a,b,A,λk hk=>(hq k hk).2.2.2,g0,g1,g2,λT' K=>?_,iA,τ,ht,t0,?_⟩;· rw[show fbF .mul 4611686018427387904 4614256656552045848=some 4618760256179416344 by decide +kernel];show(bH (U9 .f64 (n:Int)) λb=>aM (fbF .quo 4618760256179416344 b) _)=_;rw[cB,aK e,hA,nK iA.1 iA.2]
 ·have dT:=wW (r:=λk=>1002/1000*eps*(ρ k*R)) (λk hk=>(hq k hk).2.1);rw[jD,sR]at dT;have e1:csm (λk=>U k*(Cp.I*D k)) n=Cp.I*C9 R*csm (λk=>z k*U k) n:=by
   rw[kQ];refine cA λk hk=>?_
   rw[hz k hk,bQz]
  rw[<-e1];have k2:Nm (C9 τ*(csm (λk=>(qP k).2) n-csm (λk=>U k*(Cp.I*D k)) n)) (τ*(1002/1000*eps*((n:Rat)*(R*m)))):=(oV (by rw[fZ (bN t0)];exact R9)).mul dT;rw[Cp.mul_sub]at k2;refine(dA.tri k2).mono ?_;have x0:0<=eJ*(R*m):=by
   have:0<=(n:Rat)*(R*m):=by rw[<-sR];exact eZ λk hk=>bU (ρ0 k hk) (by grind)
   have:=bU (bN t0) this;rw[<-ht];grind
  rw[show τ*(1002/1000*eps*((n:Rat)*(R*m)))=1002/1000*(eJ*(R*m)*eps) by rw[<-ht];grind];have:=bU x0 (bN ep);rw[show eJ*(1002/1000*(R*m))*(520*eps)=1002/1000*520*(eJ*(R*m)*eps) by grind];generalize eJ*(R*m)=y at *
  clear dA k2 dT hA;grind
section
variable{n N:Nat}{z w:Nat->Cp}(hz:Pts lD uL n z)(hw:Pts lD uL n w)(hzw:∀k,k<n->z k*w k=O9)(hn:0<n){s:Nat->Sd}{κ:Nat->Cp}{V:Nat->Nat->Cp}{l:Nat->Nat->Rat}{m:Nat->Rat}(hs:∀i,i<N->aNx (s i))(hE:∀i,i<N->Elw n z w (s i) (κ i) (V i) (l i) (m i))
include hz hw hzw hn hs hE
theorem cA4{k:Nat}(hk:k<n):0<=rsm (λi=>l i k) N:=eZ λi hi=>((hE i hi).len k hk).1
theorem aT0{f:Nat->Cp}{P:Nat->Nat->Cp}{E:Rat}(hf:∀k,k<n->Nm (f k) (1+1/100000))(E0:0<=E)(E1:E<=1001/1000*EE)(hP:aWl n N z w s f P E){S Q:Nat->Cp}{U:Rat}(hS:∀k,k<n->Nm (S k-csm (λi=>V i k) N) (6*eps*rsm (λi=>l i k) N))(nS:∀k,k<n->Nm (S k) (1001/1000*rsm (λi=>l i k) N))(hQ:∀k,k<n->Nm (Q k-S k*S k) (eps*(1001/1000*rsm (λi=>l i k) N*(1001/1000*rsm (λi=>l i k) N))))(hU:rsm (λk=>rsm (λi=>l i k) N*rsm (λi=>l i k) N) n=(n:Rat)*U):
  Nm (csm (λk=>f k*Q k) n-C9 (n:Rat)*csm (λi=>csm (λj=>κ i*κ j*P i j) N) N) ((n:Rat)*(2501/10000000000*U)):=by
 have ep:=bI;have et:=bR;have a:=bNq hz hw hzw hn hs hE hf E0 E1 hP hU;have b:Nm (csm (λk=>f k*Q k) n-csm (λk=>f k*(csm (λi=>V i k) N*csm (λi=>V i k) N)) n) (rsm (λk=>15*eps*(rsm (λi=>l i k) N*rsm (λi=>l i k) N)) n):=wW λk hk=>by
  rw[<-Cp.mul_sub];have l0:=cA4 hz hw hzw hn hs hE hk;have t:=bCe hz hw hzw hn hs hE hk;have h1:=hQ k hk;have h2:=(nS k hk).mul (hS k hk);have h3:=(hS k hk).mul t;have h4:=(h2.add h3);have e:S k*(S k-csm (λi=>V i k) N)+(S k-csm (λi=>V i k) N)*csm (λi=>V i k) N=S k*S k-csm (λi=>V i k) N*csm (λi=>V i k) N:=by
   rw[Cp.mul_sub,Cp.sub_mul];refine E9 ?_ ?_;· simp only[Cp.add_re,S9];grind
   ·simp only[Cp.add_im,T9];grind
  rw[e]at h4;have h5:=(hf k hk).mul (h1.tri h4);refine h5.mono ?_;generalize rsm (λi=>l i k) N=L at *
  have q:=bU (bN ep) (bU l0 l0);have e1:eps*(1001/1000*L*(1001/1000*L))=1001/1000*(1001/1000)*(eps*(L*L)):=by grind
  have e2:1001/1000*L*(6*eps*L)=6006/1000*(eps*(L*L)):=by grind
  have e3:6*eps*L*L=6*(eps*(L*L)):=by grind
  have e4:15*eps*(L*L)=15*(eps*(L*L)):=by grind
  rw[e1,e2,e3,e4];grind
 rw[jD,hU]at b;refine(b.tri a).mono ?_;have x0:0<=(n:Rat)*U:=by rw[<-hU];exact eZ λk hk=>bU (cA4 hz hw hzw hn hs hE hk) (cA4 hz hw hzw hn hs hE hk)
 have:=cG et x0;unfold cS;grind
end
theorem aVu{A X G:Cp}{τ R M c d:Rat}{n:Nat}(R1:1<=R)(ht:τ*(n:Rat)=eJ)(t0:0<τ)(hA:Nm (A-C9 τ*(Cp.I*C9 R*X)) (eJ*(R*M)*d))(hX:Nm (X-C9 (n:Rat)*G) ((n:Rat)*(c*M))):
  Nm (A-C9 eJ*(Cp.I*(C9 R*G))) (eJ*(R*M)*(c+d)):=by
 have h:Nm (C9 τ*(Cp.I*C9 R*(X-C9 (n:Rat)*G))) (τ*(1*R*((n:Rat)*(c*M)))):=
  (oV (by rw[fZ (bN t0)];exact R9)).mul ((bM5.mul (oV (by rw[fZ (by grind)];exact R9))).mul hX)
 have k:=hA.add h;have e:A-C9 τ*(Cp.I*C9 R*X)+C9 τ*(Cp.I*C9 R*(X-C9 (n:Rat)*G))=A-C9 eJ*(Cp.I*(C9 R*G)):=by
  rw[<-ht];refine E9 ?_ ?_;· simp only[Cp.add_re,S9,T9,Cp.mul_re,Cp.mul_im,Cp.of_re,Cp.of_im];grind
  ·simp only[Cp.add_im,S9,T9,Cp.mul_re,Cp.mul_im,Cp.of_re,Cp.of_im];grind
 rw[e]at k;refine k.mono ?_;rw[show τ*(1*R*((n:Rat)*(c*M)))=τ*(n:Rat)*(R*(c*M)) by grind,ht];grind
theorem bIw{E:Cp}{R g:Rat}(R1:1<=R)(h:Ng (C9 R⁻¹*E) g):Ng E g:=by
 have Rn:R≠0:=by grind
 refine⟨h.1,?_⟩;have h2:=h.2;rw[uD]at h2;have i0:0<=R⁻¹:=bN (Rat.inv_pos.2 (by grind));have i1:R⁻¹<=1:=by have:=cG R1 i0;rw[Rat.mul_inv_cancel _ Rn]at this;grind
 have i2:R⁻¹*R⁻¹<=1:=by have:=aC i1 i1 i0 (by decide);grind
 have:=cG i2 E.nsq_nonneg;grind
structure cEu(spd:∀T:Type,Nat->Nat->(Nat->Nat->Int->Option T)->Option T)(F:Cp->Cp)(γ:Cp)(R:Rat)(n:Nat)(zK zM:Nat->Nat×Nat)(z:Nat->Cp)(v vM:Nat->Nat×Nat)(V E:Nat->Cp)(wM:Nat->Nat)(L:Nat->Rat):Prop where
 spdK:∀k,k<n->∀(T:Type)(K:vT T),spd T (zK k).1 (zK k).2 K=K (v k).1 (v k).2 0
 spdM:∀k,k<n->∀(T:Type)(K:vT T),spd T (zM k).1 (zM k).2 K=K (vM k).1 (vM k).2 0
 iV:∀k,k<n->IsZ (v k).1 (v k).2 (V k)
 len:∀k,k<n->∀(T:Type)(K:KNO T),cQ T (vM k).1 (vM k).2 K=K (wM k)
 iL:∀k,k<n->Is (wM k) (L k)
 L0:∀k,k<n->0<=L k
 Lb:∀k,k<n->L k<=200000000000000000
 fL:∀k,k<n->aV7 (L k)
 lenV:∀k,k<n->Nm (V k) (1017/1000*L k)
 near:∀k,k<n->Nm (C9 R⁻¹*E k-(z k-γ)) (1127*eps)
 rl:∀k,k<n->Rl (V k) (F (E k)) (100*eps)
structure AtP(spd:∀T:Type,Nat->Nat->(Nat->Nat->Int->Option T)->Option T)(F:Cp->Cp)(g:Rat)(γ:Cp)(R:Rat)(zw:Nat×Nat)(ζ:Cp)(v:Nat×Nat)(V E:Cp):Prop where
 iV:IsZ v.1 v.2 V
 spd:∀(T:Type)(K:vT T),spd T zw.1 zw.2 K=K v.1 v.2 0
 nE:Nm E rD
 gE:Ng (C9 R⁻¹*E) (29/100000000)
 gE2:Ng E g
 near:Nm (C9 R⁻¹*E-(ζ-γ)) (1127*eps)
 rl:Rl V (F E) (100*eps)
theorem bHt{spd:∀T:Type,Nat->Nat->(Nat->Nat->Int->Option T)->Option T}{F:Cp->Cp}{g:Rat}{γ:Cp}{R:Rat}{n:Nat}{zK zM:Nat->Nat×Nat}{z zm:Nat->Cp}(hlow:∀V E,Nm E rD->Ng E g->Rl V (F E) (100*eps)->V=Z9\/Ng V ((2:Rat)^(-150:Int)))(hhigh:∀V E,Nm E rD->Ng E g->Rl V (F E) (100*eps)->Nm V 100000000000000000)(hoth:∀VK VM EK EM l,Rl VK (F EK) (100*eps)->Rl VM (F EM) (100*eps)->Nm (C9 R⁻¹*EK-C9 R⁻¹*EM) (2300*eps)->Ng (C9 R⁻¹*EM) (29/100000000)->Nm VM l->Nm VK (1001/1000*l))(hK:∀k,k<n->∃v V E,AtP spd F g γ R (zK k) (z k) v V E)(hM:∀k,k<n->∃v V E,AtP spd F g γ R (zM k) (zm k) v V E)(near:∀k,k<n->Nm (z k-zm k) (32*eps)):
  ∃v vM V E wM L,cEu spd F γ R n zK zM z v vM V E wM L:=by
 have ep:=bI;obtain⟨f,hf⟩:=pick (α:=(Nat×Nat)×Cp×Cp) (n:=n) (p:=λk x=>AtP spd F g γ R (zK k) (z k) x.1 x.2.1 x.2.2) (λk hk=>by obtain⟨v,V,E,h⟩:=hK k hk;exact⟨(v,V,E),h⟩);obtain⟨j,hj⟩:=pick (α:=(Nat×Nat)×Cp×Cp×Nat×Rat) (n:=n) (p:=λk x=>AtP spd F g γ R (zM k) (zm k) x.1 x.2.1 x.2.2.1/\Is x.2.2.2.1 x.2.2.2.2/\0<=x.2.2.2.2/\x.2.2.2.2<=200000000000000000/\Nm x.2.1 (1015/1000*x.2.2.2.2)/\aV7 x.2.2.2.2/\∀(T:Type)(K:KNO T),cQ T x.1.1 x.1.2 K=K x.2.2.2.1) (λk hk=>by obtain⟨v,V,E,h⟩:=hM k hk;obtain⟨wd,L,a,b,c,d,e,q⟩:=bIj h.iV (hhigh V E h.nE h.gE2 h.rl) (by decide +kernel) (cR (show(100000000000000000:Rat)<=(2:Rat)^(60:Int) by rw[show(60:Int)=((60:Nat):Int) by rfl,cN];decide +kernel) (cY (by decide))) (hlow V E h.nE h.gE2 h.rl);exact⟨(v,V,E,wd,L),h,a,b,by grind,d,e,q⟩);refine⟨λk=>(f k).1,λk=>(j k).1,λk=>(f k).2.1,λk=>(f k).2.2,λk=>(j k).2.2.2.1,λk=>(j k).2.2.2.2,?_⟩;refine⟨λk hk=>(hf k hk).spd,λk hk=>(hj k hk).1.spd,λk hk=>(hf k hk).iV,λk hk=>(hj k hk).2.2.2.2.2.2,λk hk=>(hj k hk).2.1,λk hk=>(hj k hk).2.2.1,λk hk=>(hj k hk).2.2.2.1,λk hk=>(hj k hk).2.2.2.2.2.1,λk hk=>?_,λk hk=>(hf k hk).near,λk hk=>(hf k hk).rl⟩;have a:=hf k hk;have b:=(hj k hk).1;have d:Nm (C9 R⁻¹*(f k).2.2-C9 R⁻¹*(j k).2.2.1) (2300*eps):=by
  have h:=(a.near.add (near k hk)).add b.near.comm;have e:C9 R⁻¹*(f k).2.2-(z k-γ)+(z k-zm k)+(zm k-γ-C9 R⁻¹*(j k).2.2.1)=C9 R⁻¹*(f k).2.2-C9 R⁻¹*(j k).2.2.1:=by
   generalize C9 R⁻¹*(f k).2.2=X;generalize C9 R⁻¹*(j k).2.2.1=Y;refine E9 ?_ ?_;· simp only[Cp.add_re,S9];grind
   ·simp only[Cp.add_im,T9];grind
  rw[e]at h;exact h.mono (by grind)
 refine(hoth _ _ _ _ _ a.rl b.rl d b.gE (hj k hk).2.2.2.2.1).mono ?_;have:=(hj k hk).2.2.1;grind
structure bJs(spd:∀T:Type,Nat->Nat->(Nat->Nat->Int->Option T)->Option T)(n:Nat)(zK zM:Nat->Nat×Nat)(z w:Nat->Cp)(s:Sd)(κ:Cp)(v vM:Nat->Nat×Nat)(V:Nat->Cp)(wM:Nat->Nat)(L:Nat->Rat):Prop where
 spdK:∀k,k<n->∀(T:Type)(K:vT T),spd T (zK k).1 (zK k).2 K=K (v k).1 (v k).2 0
 spdM:∀k,k<n->∀(T:Type)(K:vT T),spd T (zM k).1 (zM k).2 K=K (vM k).1 (vM k).2 0
 iV:∀k,k<n->IsZ (v k).1 (v k).2 (V k)
 len:∀k,k<n->∀(T:Type)(K:KNO T),cQ T (vM k).1 (vM k).2 K=K (wM k)
 iL:∀k,k<n->Is (wM k) (L k)
 L0:∀k,k<n->0<=L k
 Lb:∀k,k<n->L k<=200000000000000000
 fL:∀k,k<n->aV7 (L k)
 side:aNx s
 elw:Elw n z w s κ V (λk=>1017/1000*L k) (rsm (λk=>1017/1000*L k) n/(n:Rat))
theorem yQ{x:Rat}{n:Nat}(hn:0<n):x=(n:Rat)*(x/(n:Rat)):=by
 have:(0:Rat)<(n:Rat):=by exact_mod_cast hn
 rw[Rat.mul_comm,Rat.div_mul_cancel (by grind)]
section
variable{n:Nat}{z w:Nat->Cp}(hz:Pts lD uL n z)(hw:Pts lD uL n w)(hzw:∀k,k<n->z k*w k=O9)(hn:0<n){zm:Nat->Cp}(near:∀k,k<n->Nm (z k-zm k) (32*eps)){R:Rat}(R1:1<=R){spd:∀T:Type,Nat->Nat->(Nat->Nat->Int->Option T)->Option T}{zK zM:Nat->Nat×Nat}{γ C:Cp}
include hz hw hzw hn near R1
theorem aRf{m:Nat}(hm1:1<=m)(hm:m<=9)(hC:C=Z9\/Ng C (1/10))(nC:Nm C 20000)(hK:∀k,k<n->∃v V E,AtP spd (λE=>C*E.inv.pw m) (4/10) γ R (zK k) (z k) v V E)(hM:∀k,k<n->∃v V E,AtP spd (λE=>C*E.inv.pw m) (4/10) γ R (zM k) (zm k) v V E):
  ∃v vM V wM L,(Nm γ (5075/10000)->bJs spd n zK zM z w (.inn γ qB m) (C*(C9 R⁻¹).pw m) v vM V wM L)/\(Ng γ (197058/100000)->bJs spd n zK zM z w (.out (jU γ.inv qB m)) (C*(C9 R⁻¹).pw m*(-γ.inv).pw m) v vM V wM L):=by
 obtain⟨v,vM,V,E,wM,L,f⟩:=bHt (F:=λE=>C*E.inv.pw m) (g:=4/10) (λV E a b c=>bFn hm hC a (b.mono (bN aAa) (by unfold mD;decide +kernel)) c) (λV E a b c=>(bAm hm nC b c).mono (by decide +kernel)) (λVK VM EK EM l a b c d e=>aVn hm R1 a b c d e) hK hM near;refine⟨v,vM,V,wM,L,λh=>?_,λh=>?_⟩;· obtain⟨a,b⟩:=bMa hz hw hzw hn R1 hm1 hm f.near f.rl f.lenV (yQ hn) h;exact⟨f.spdK,f.spdM,f.iV,f.len,f.iL,f.L0,f.Lb,f.fL,a,b⟩
 ·obtain⟨a,b⟩:=bNh hz hw hzw hn R1 hm1 hm f.near f.rl f.lenV (yQ hn) h;exact⟨f.spdK,f.spdM,f.iV,f.len,f.iL,f.L0,f.Lb,f.fL,a,b⟩
theorem aUx{m:Nat}(hm:m<=3)(hC:C=Z9\/Ng C (1/10))(nC:Nm C 20000)(hK:∀k,k<n->∃v V E,AtP spd (λE=>C*E.pw m) (1/8192/8192) γ R (zK k) (z k) v V E)(hM:∀k,k<n->∃v V E,AtP spd (λE=>C*E.pw m) (1/8192/8192) γ R (zM k) (zm k) v V E):
  ∃v vM V wM L,bJs spd n zK zM z w (.out (pC γ (γ.re.abs+γ.im.abs+1/1000) m)) (C*(C9 R).pw m) v vM V wM L:=by
 obtain⟨v,vM,V,E,wM,L,f⟩:=bHt (F:=λE=>C*E.pw m) (g:=1/8192/8192) (λV E a b c=>aUq hm hC b c) (λV E a b c=>(aOc hm nC a c).mono (by decide +kernel)) (λVK VM EK EM l a b c d e=>aMq (by omega) R1 a b c d e) hK hM near;obtain⟨a,b⟩:=aUp hz hw hzw hn R1 hm rfl f.near f.rl f.lenV (yQ hn);exact⟨v,vM,V,wM,L,⟨f.spdK,f.spdM,f.iV,f.len,f.iL,f.L0,f.Lb,f.fL,a,b⟩⟩
theorem aUy{s1 s2:Nat}(iC:IsZ s1 s2 C)(hC:C=Z9\/Ng C (1/10))(nC:Nm C 20000)(hsK:∀k,k<n->∀(T:Type)(K:vT T),spd T (zK k).1 (zK k).2 K=K s1 s2 0)(hsM:∀k,k<n->∀(T:Type)(K:vT T),spd T (zM k).1 (zM k).2 K=K s1 s2 0):
  ∃wM L,bJs spd n zK zM z w (.out (jU Z9 qB 0)) C (λ_=>(s1,s2)) (λ_=>(s1,s2)) (λ_=>C) wM L:=by
 obtain⟨wd,L,a,b,c,d,e,q⟩:=bIj iC nC (by decide) (cR (show(20000:Rat)<=(2:Rat)^(60:Int) by rw[show(60:Int)=((60:Nat):Int) by rfl,cN];decide +kernel) (cY (by decide))) (by
  rcases hC with h|h;· exact .inl h
  ·exact .inr (h.mono (bN (bG _)) (cR aPu (by decide +kernel))))
 have hl:∀k,k<n->Nm C (1017/1000*L):=λk hk=>d.mono (by grind)
 obtain⟨s1',s2'⟩:=aV0 (z:=z) (w:=w) (V:=λ_=>C) (l:=λ_=>1017/1000*L) hn (λk _=>rfl) hl (yQ hn);exact⟨λ_=>wd,λ_=>L,⟨hsK,hsM,λk hk=>iC,λk hk=>q,λk hk=>a,λk hk=>b,λk hk=>by grind,λk hk=>e,s1',s2'⟩⟩
end
def GoM(r n:Nat)(dM:Nat->Nat×Nat):Prop:=∀k,k<n->∀(T:Type)(K:KNN T),
  (bH (U9 .f64 (k:Int)) λa=>aM (fbF .mul 4618760256179416344 a) λa=>bH (U9 .f64 (n:Int)) λb=>aM (fbF .quo a b) λt=>
   yV T t λs c=>aM (fbF .mul r c) λx=>aM (fbF .mul r s) λy=>K x y)=K (dM k).1 (dM k).2
structure bQ1(GM:Prop)(c1 c2 r:Nat)(cx cy:Int)(R:Rat)(n:Nat)(dK zK dM zM:Nat->Nat×Nat)(DK ZK DM ZM z w zm wm:Nat->Cp):Prop where
 K:∀k,k<n->Plc c1 c2 cx cy R (dK k) (zK k) (DK k) (ZK k)
 M:∀k,k<n->Plc c1 c2 cx cy R (dM k) (zM k) (DM k) (ZM k)
 eK:∀k,z k=C9 R⁻¹*DK k
 eM:∀k,zm k=C9 R⁻¹*DM k
 pz:Pts lD uL n z
 pw:Pts lD uL n w
 zw:∀k,k<n->z k*w k=O9
 mz:∀k,k<n->Nm (zm k) lD
 mw:∀k,k<n->Nm (wm k) lD
 zwm:∀k,k<n->zm k*wm k=O9
 near:∀k,k<n->Nm (z k-zm k) (32*eps)
 goK:∀k,k<n->∀(T:Type)(K:KNN T),
  (bH (U9 .f64 (k:Int)) λa=>aM (fbF .mul 4611686018427387904 a) λa=>aM (fbF .mul a 4614256656552045848) λa=>bH (U9 .f64 (n:Int)) λb=>aM (fbF .quo a b) λt=>
   yV T t λs c=>aM (fbF .mul r c) λx=>aM (fbF .mul r s) λy=>K x y)=K (dK k).1 (dK k).2
 goM:GM
theorem bAl{n:Nat}(n1:128<=n)(n2:n<=512){c1 c2 r:Nat}{cx cy:Int}{R:Rat}(hc:IsC c1 c2 cx cy)(b1:cx.natAbs<=1000)(b2:cy.natAbs<=1000)(hr:Is r R)(R1:1<=R)(R2:R<=2000):
  ∃dK zK dM zM DK ZK DM ZM z w zm wm,bQ1 (GoM r n dM) c1 c2 r cx cy R n dK zK dM zM DK ZK DM ZM z w zm wm:=by
 have et:=bR;obtain⟨Q,hQ⟩:∃Q,aUf Q:=⟨_,⟨rfl⟩⟩;have hh:(n:Rat)*(Q/(n:Rat))=Q:=(yQ (by omega)).symm;obtain⟨f,hf⟩:=pick (α:=(Nat×Nat)×(Nat×Nat)×Cp×Cp) (n:=n) (p:=λk x=>Plc c1 c2 cx cy R x.1 x.2.1 x.2.2.1 x.2.2.2/\Nm (C9 R⁻¹*x.2.2.1-om ((k:Rat)*(Q/(n:Rat)))) (16*eps)/\∀(T:Type)(K:KNN T),
  (bH (U9 .f64 (k:Int)) λa=>aM (fbF .mul 4611686018427387904 a) λa=>aM (fbF .mul a 4614256656552045848) λa=>bH (U9 .f64 (n:Int)) λb=>aM (fbF .quo a b) λt=>
   yV T t λs c=>aM (fbF .mul r c) λx=>aM (fbF .mul r s) λy=>K x y)=K x.1.1 x.1.2) (λk hk=>by
  obtain⟨d,z,D,Z,h1,h2,h3⟩:=bNm hQ n1 n2 hh hk hc b1 b2 hr R1 R2;exact⟨(d,z,D,Z),h1,h2,h3⟩)
 obtain⟨j,hj⟩:=pick (α:=(Nat×Nat)×(Nat×Nat)×Cp×Cp) (n:=n) (p:=λk x=>Plc c1 c2 cx cy R x.1 x.2.1 x.2.2.1 x.2.2.2/\Nm (C9 R⁻¹*x.2.2.1-om ((k:Rat)*(Q/(n:Rat)))) (16*eps)/\∀(T:Type)(K:KNN T),
  (bH (U9 .f64 (k:Int)) λa=>aM (fbF .mul 4618760256179416344 a) λa=>bH (U9 .f64 (n:Int)) λb=>aM (fbF .quo a b) λt=>
   yV T t λs c=>aM (fbF .mul r c) λx=>aM (fbF .mul r s) λy=>K x y)=K x.1.1 x.1.2) (λk hk=>by
  obtain⟨d,z,D,Z,h1,h2,h3⟩:=cGe hQ n1 n2 hh hk hc b1 b2 hr R1 R2;exact⟨(d,z,D,Z),h1,h2,h3⟩)
 have hz:∀k,k<n->Nm ((λk=>C9 R⁻¹*(f k).2.2.1) k-om ((k:Rat)*(Q/(n:Rat)))) (16*eps):=λk hk=>(hf k hk).2.1
 have hm:∀k,k<n->Nm ((λk=>C9 R⁻¹*(j k).2.2.1) k-om ((k:Rat)*(Q/(n:Rat)))) (16*eps):=λk hk=>(hj k hk).2.1
 have inv:∀{y:Nat->Cp},(∀k,k<n->Nm (y k-om ((k:Rat)*(Q/(n:Rat)))) (16*eps))->∀k,k<n->y k*(λk=>(y k).inv) k=O9:=λ{y} hy k hk=>by
  refine Cp.inv_mul λe=>?_
  have a:=aZ7 (x:=(k:Rat)*(Q/(n:Rat))) (by have:=(aHe hQ n1 n2 hh (Nat.le_of_lt hk)).1;grind);have b:Ng (om ((k:Rat)*(Q/(n:Rat)))) (9/10):=⟨by decide +kernel,by
   have:=aA.1 a;have k2:=qN;generalize kP=x at *
   grind⟩
  have c:=oG b (hy k hk) (by grind);rw[show om ((k:Rat)*(Q/(n:Rat)))+(y k-om ((k:Rat)*(Q/(n:Rat))))=y k by generalize om ((k:Rat)*(Q/(n:Rat)))=o;exact E9 (by simp only[Cp.add_re,S9];grind) (by simp only[Cp.add_im,T9];grind)]at c;have c2:=c.mono (s:=1/2) (by decide +kernel) (by grind);have:=c2.2;rw[e]at this;exact absurd this (by decide +kernel)
 refine⟨λk=>(f k).1,λk=>(f k).2.1,λk=>(j k).1,λk=>(j k).2.1,λk=>(f k).2.2.1,λk=>(f k).2.2.2,λk=>(j k).2.2.1,λk=>(j k).2.2.2,λk=>C9 R⁻¹*(f k).2.2.1,λk=>(C9 R⁻¹*(f k).2.2.1).inv,λk=>C9 R⁻¹*(j k).2.2.1,λk=>(C9 R⁻¹*(j k).2.2.1).inv,?_⟩;exact⟨λk hk=>(hf k hk).1,λk hk=>(hj k hk).1,λk=>rfl,λk=>rfl,bUx hQ n1 n2 hh hz,bUw hQ n1 n2 hh hz (inv hz),inv hz,λk hk=>(bUx hQ n1 n2 hh hm).at_ k hk,λk hk=>(bUw hQ n1 n2 hh hm (inv hm)).at_ k hk,inv hm,λk hk=>((hz k hk).tri (hm k hk).comm).mono (by grind),λk hk=>(hf k hk).2.2,λk hk=>(hj k hk).2.2⟩
section
variable{c1 c2 a1 a2 s1 s2 p:Nat}{cx cy X Y S T:Int}{R:Rat}{d z:Nat×Nat}{D Z ζ γ:Cp}(hP:Plc c1 c2 cx cy R d z D Z)(bc1:cx.natAbs<=1000)(bc2:cy.natAbs<=1000)(R1:1<=R)(R2:R<=2000)(eζ:ζ=C9 R⁻¹*D)(eγ:γ=C9 R⁻¹*gz (X-cx) (Y-cy))
include hP bc1 bc2 R1 R2 eζ eγ
theorem bI1{E:Cp}(far:Ng (ζ-γ) (49/100))(h:Nm (C9 R⁻¹*E-(ζ-γ)) (1127*eps)):Ng E (4/10):=by have et:=bR;have a:=(aZy R1 far h (by grind) (by unfold mD;grind)).1;exact(bIw R1 a).mono (by decide +kernel) (by grind)
theorem aDv{m:Nat}(m1:1<=m)(m8:m<=8)(h:ElD 3 a1 a2 s1 s2 (wrd m) X Y S T)(far:Ng (ζ-γ) (49/100)):
  ∃v V E,AtP (λT' z1 z2 K=>spdK T' 3 a1 a2 s1 s2 (wrd m) z1 z2 K) (λE=>gz (S*-(m:Int)) (T*-(m:Int))*E.inv.pw (m+1)) (4/10) γ R z ζ v V E:=by
 have far':=far;subst eζ eγ;obtain⟨v,V,E,a,b,c,e,f,g⟩:=aUj hP bc1 bc2 R1 R2 m1 m8 h (far.mono (by decide +kernel) (by decide +kernel));exact⟨v,V,E,a,b,c,e,bI1 hP bc1 bc2 R1 R2 rfl rfl far' f,f,g⟩
theorem aG1{k1 k2:Nat}{C:Cp}(hc:∀(R:Type)(k:KNN R),eQ R s1 s2 4594902181429758083 k=k k1 k2)(iC:IsZ k1 k2 C)(hC:C≠Z9->Ng C (1/10))(nC:Nm C 20000)(h:ElD 2 a1 a2 s1 s2 p X Y S T)(far:Ng (ζ-γ) (49/100)):
  ∃v V E,AtP (λT' z1 z2 K=>spdK T' 2 a1 a2 s1 s2 p z1 z2 K) (λE=>C*E.inv.pw 1) (4/10) γ R z ζ v V E:=by
 have far':=far;subst eζ eγ;obtain⟨v,V,E,a,b,c,e,f,g⟩:=aW4 hP bc1 bc2 R1 R2 hc iC hC nC h (far.mono (by decide +kernel) (by decide +kernel));exact⟨v,V,E,a,b,c,e,bI1 hP bc1 bc2 R1 R2 rfl rfl far' f,f,g⟩
theorem aG0{m:Nat}(m1:1<=m)(m4:m<=4)(h:ElD 4 a1 a2 s1 s2 (wrd m) X Y S T)(far:Ng (ζ-γ) (3/10000000)):
  ∃v V E,AtP (λT' z1 z2 K=>spdK T' 4 a1 a2 s1 s2 (wrd m) z1 z2 K) (λE=>gz (S*(m:Int)) (T*(m:Int))*E.pw (m-1)) (1/8192/8192) γ R z ζ v V E:=by
 have far':=far;subst eζ eγ;obtain⟨v,V,E,a,b,c,e,f,g⟩:=aW2 hP bc1 bc2 R1 R2 m1 m4 h far;exact⟨v,V,E,a,b,c,e,(bIw R1 e).mono (by decide +kernel) (by decide +kernel),f,g⟩
end
theorem aR2{S T:Int}:gz S T=Z9\/Ng (gz S T) (1/10):=by
 by_cases h:gz S T=Z9;· exact .inl h
 ·exact .inr ((aBh h).mono (by decide +kernel) (by decide +kernel))
end Go.Vx
