/- A part; no conditions. -/
import Derived.Test.YtaogignikkjkjaaGreatVmWF1
set_option maxRecDepth 1000000
set_option maxHeartbeats 1000000
set_option linter.all false
open Go.Vx.Cp renaming of->C9,zero->Z9,one->O9,mul_assoc->M9,ext'->E9,sub_re->S9,sub_im->T9
open Rat renaming le_refl->R9
namespace Go.Vx
open Go.Vm Go.Proofs Ieee
theorem aEj:Is 4602678819172646912 (1/2):=by
 refine⟨by decide,false,4503599627370496,-53,by decide,?_⟩;have h:=jG 53;have e:(2:Rat)^(53:Int)=9007199254740992:=by rw[show(53:Int)=((53:Nat):Int) by rfl,cN];rfl
 rw[e]at h;have e2:(2:Rat)^(-53:Int)=1/9007199254740992:=by grind
 unfold dv sg;rw[e2];decide +kernel
theorem bMe:Is 4526117625507348480 (1/262144):=by
 refine⟨by decide,false,4503599627370496,-70,by decide,?_⟩;have h:=jG 70;have e:(2:Rat)^(70:Int)=1180591620717411303424:=by rw[show(70:Int)=((70:Nat):Int) by rfl,cN];rfl
 rw[e]at h;have e2:(2:Rat)^(-70:Int)=1/1180591620717411303424:=by grind
 unfold dv sg;rw[e2];decide +kernel
theorem aSd:Is 13826050856027422720 (-(1/2)):=by have:=wJ aEj;rwa[show Op.negFloat .f64 4602678819172646912=13826050856027422720 by decide]at this
theorem bS7:Is 13837628693406821656 (-(eJ/2)):=by have:=wJ bMf;rw[show Op.negFloat .f64 4614256656552045848=13837628693406821656 by decide]at this;rwa[show eJ/2=piV by unfold eJ;grind]
theorem bH7:Is 4614256656552045848 (eJ/2):=by have:=bMf;rwa[show eJ/2=piV by unfold eJ;grind]
theorem aN8{a b:Nat}{A:Cp}(h:IsZ a b A):∃q,IsZ a q A.cj/\∀(R:Type)(k:KNN R),jK R a b k=k a q:=⟨_,⟨h.1,wJ h.2⟩,λR k=>by unfold jK;rw[cB]⟩
theorem bB2{u d p:Nat×Nat}{U D P:Cp}{ρ R:Rat}(iP:IsZ p.1 p.2 P)(dP:Nm (P-U*(Cp.I*D)) (1002/1000*eps*(ρ*R)))(nP:Nm P (1002/1000*(ρ*R)))(iD:IsZ d.1 d.2 D)(fρ:ρ=0\/(2:Rat)^(-380:Int)<=ρ)(ρ0:0<=ρ)(bρ:ρ<=1000000000000000000000000000000000000000000)(nD:Nm D (1001/1000*R))(R1:1<=R)(R2:R<=2000):
  ∃(q:Nat×Nat)(Q:Cp),IsZ q.1 q.2 Q/\Nm (Q-U*(Cp.I*D)*D) (2010/1000*eps*(ρ*(R*R)))/\Nm Q (1005/1000*(ρ*(R*R)))/\∀(T:Type)(K:KNN T),dV T p.1 p.2 d.1 d.2 K=K q.1 q.2:=by
 have ep:=bI;have et:=bR;have RR:=aC R2 R2 (show 0<=R by grind) (by decide);have RR0:=bU (show 0<=R by grind) (show 0<=R by grind);have ρRR0:=bU ρ0 RR0;have ρRR:=aC bρ RR RR0 (by decide);have e0:1002/1000*(ρ*R)*(1001/1000*R)=1002/1000*(1001/1000)*(ρ*(R*R)):=by grind
 obtain⟨a,b,Q,iQ,dQ,hQ⟩:=mY iP iD nP nD (by rw[e0,bZ];grind) (by
  rw[show 1002/1000*(ρ*R)=1002/1000*R*ρ by grind];refine kB (by grind) ρ0 ?_;rcases fρ with h|h;· exact .inl h
  ·exact .inr (cR (cY (by decide)) h)) (.inr (cR (cR (cY (show(-400:Int)<=0 by decide)) (by rw[Rat.zpow_zero];exact R9)) (show 1<=1001/1000*R by grind)))
 have k1:=dP.mul nD;rw[Cp.sub_mul]at k1;have k2:=dQ.tri k1;have x0:=bU (bN ep) ρRR0;have ex:=cG et ρRR0;rw[e0,show 1002/1000*eps*(ρ*R)*(1001/1000*R)=1002/1000*(1001/1000)*(eps*(ρ*(R*R))) by grind]at k2;refine⟨(a,b),Q,iQ,k2.mono ?_,(dQ.near (nP.mul nD)).mono ?_,hQ⟩
 ·generalize ρ*(R*R)=X at *
  grind
 ·rw[e0];generalize ρ*(R*R)=X at *
  grind
section
variable{GM:Prop}{cx cy r:Int}{S:jO (fI cx) (fI cy) (fI r)}{hs:List Th}{n:Nat}{dK zK dM zM:Nat->Nat×Nat}{DK ZK DM ZM z w zm wm:Nat->Cp}{c:Th->Nat×Nat}{C:Th->Cp}{s:Th->Sd}{κ:Th->Cp}{v vM:Th->Nat->Nat×Nat}{V:Th->Nat->Cp}{wM:Th->Nat->Nat}{L:Th->Nat->Rat}(T:Dat GM S hs n dK zK dM zM DK ZK DM ZM z w zm wm c C s κ v vM V wM L)
def G3(hs:List Th)(s:Th->Sd)(κ:Th->Cp):Cp:=csm (λi=>csm (λj=>κ (Hn hs i)*κ (Hn hs j)*(s (Hn hs i)).pairM (s (Hn hs j))) hs.length) hs.length
theorem bZn(U z:Cp)(R:Rat):U*(Cp.I*(C9 R*z))*(C9 R*z)=Cp.I*C9 (R*R)*(z*z*U):=by rw[Cp.of_mul_of];simp only[M9,Cp.mul_left_comm,Cp.mul_comm]
include T
theorem bE2{W Q:Nat->Cp}(h1:∀k,k<n->Nm (W k-csm (λi=>V (Hn hs i) k) hs.length) (6*eps*slH hs L k))(h2:∀k,k<n->Nm (W k) (1001/1000*slH hs L k))(h3:∀k,k<n->Nm (Q k-W k*W k) (eps*(1001/1000*slH hs L k*(1001/1000*slH hs L k)))):
  Nm (csm (λk=>z k*z k*Q k) n-C9 (n:Rat)*G3 hs s κ) ((n:Rat)*(2501/10000000000*UH hs L n)):=by
 have hn:=aC0 T;exact aT0 (f:=λk=>z k*z k) (P:=λi j=>(s (Hn hs i)).pairM (s (Hn hs j))) (E:=EM) (s:=λi=>s (Hn hs i)) (κ:=λi=>κ (Hn hs i)) (V:=λi=>V (Hn hs i)) (l:=lH hs L) (m:=mH hs L n) (N:=hs.length) (S:=W) (Q:=Q) (U:=UH hs L n) T.P.pz T.P.pw T.P.zw hn (λi hi=>(bCx T hi).1) (λi hi=>(bCx T hi).2) (λk hk=>by
  have:=aMi T.P.pz T.P.pw T.P.zw hn T.P.pz (show 2<=128 by omega) hk;rwa[show(z k).pw 2=z k*z k by show O9*z k*z k=_;rw[Cp.one_mul]]at this) bQv R9 (λi hi j hj=>by
  have:=bAe T.P.pz T.P.pw T.P.zw hn (bCx T hi).1.ok (bCx T hj).1.ok;rw[cA λk _=>(M9 (z k) (z k) _).symm]at this;exact this) h1 h2 h3 (aK2 T)
theorem aZu:∃(x:Nat->Nat×Nat)(q g:Nat->Nat×Nat)(t a b:Nat)(A:Cp),(∀k,k<n->bJz (els hs) (zK k).1 (zK k).2 (x k).1 (x k).2)/\
  (∀k,k<n->∀(R:Type)(K:KNN R),(jV R (dK k).1 (dK k).2 λt1 t2=>xJ dV (x k).1 (x k).2 [((x k).1,(x k).2),(t1,t2),((dK k).1,(dK k).2)] K)=K (q k).1 (q k).2)/\
  g 0=(0,0)/\(0<n->g 1=q 0)/\(∀k,0<k->k<n->aWh (g k) (q k) (g (k+1)))/\fbF .quo 4618760256179416344 (floatOfInt .f64 (n:Int))=some t/\
  (∀(R:Type)(K:KNN R),eQ R (g n).1 (g n).2 t K=K a b)/\IsZ a b A/\Nm A (102/100*(eJ*((r:Rat)*(r:Rat)*UH hs L n)))/\
  Nm (A-C9 eJ*(Cp.I*(C9 ((r:Rat)*(r:Rat))*G3 hs s κ))) (eJ*((r:Rat)*(r:Rat)*UH hs L n)*(2502/10000000000)):=by
 have et:=bR;have ep:=bI;obtain⟨R1,R2⟩:=Rq T;obtain⟨n1,n2⟩:=bM1 T;have U0:=(aA2 T).1;obtain⟨f,hf⟩:=pick (α:=(Nat×Nat)×Cp×Cp×(Nat×Nat)×Cp) (n:=n) (p:=λk x=>bJz (els hs) (zK k).1 (zK k).2 x.1.1 x.1.2/\Nm (x.2.1-csm (λi=>V (Hn hs i) k) hs.length) (6*eps*slH hs L k)/\Nm x.2.1 (1001/1000*slH hs L k)/\
   Nm (x.2.2.1-x.2.1*x.2.1) (eps*(1001/1000*slH hs L k*(1001/1000*slH hs L k)))/\IsZ x.2.2.2.1.1 x.2.2.2.1.2 x.2.2.2.2/\Nm (x.2.2.2.2-x.2.2.1*(Cp.I*DK k)*DK k) (2010/1000*eps*(1003/1000*(slH hs L k*slH hs L k)*((r:Rat)*(r:Rat))))/\Nm x.2.2.2.2 (1005/1000*(1003/1000*(slH hs L k*slH hs L k)*((r:Rat)*(r:Rat))))/\
   ∀(R:Type)(K:KNN R),(jV R (dK k).1 (dK k).2 λt1 t2=>xJ dV x.1.1 x.1.2 [(x.1.1,x.1.2),(t1,t2),((dK k).1,(dK k).2)] K)=K x.2.2.2.1.1 x.2.2.2.1.2) (λk hk=>by
  obtain⟨x,W,h1,h2,h3,h4⟩:=aTz T hk;have sf:=lE T hk;have fit:=aI1 (kB (c:=1001/1000) (by decide +kernel) sf.1 sf.2.2);have sq:slH hs L k*slH hs L k<=1500000000000000000000000000000000000:=cR (aC sf.2.1 sf.2.1 sf.1 (by decide)) (by decide +kernel);have sq0:=bU sf.1 sf.1;have ff:1003/1000*(slH hs L k*slH hs L k)=0\/(2:Rat)^(-380:Int)<=1003/1000*(slH hs L k*slH hs L k):=kB (by decide +kernel) sq0 (aI0 sf.2.2 sf.2.2);obtain⟨p,q,P,iP,dP,hP⟩:=mY h2 h2 h4 h4 (by
   have e:16*(1001/1000*slH hs L k*(1001/1000*slH hs L k))+1=16*(1001/1000*(1001/1000))*(slH hs L k*slH hs L k)+1:=by grind
   rw[e,bZ];generalize slH hs L k*slH hs L k=X at *
   grind) fit fit
  have nP:Nm P (1003/1000*(slH hs L k*slH hs L k)):=(dP.near (h4.mul h4)).mono (by
   have e:=cG et sq0;rw[show 1001/1000*slH hs L k*(1001/1000*slH hs L k)=1001/1000*(1001/1000)*(slH hs L k*slH hs L k) by grind];clear hP dP iP ff fit h1 h3 h4;generalize slH hs L k*slH hs L k=X at *
   grind)
  have iD:=(T.P.K k hk).iD;have nD:=(T.P.K k hk).nD;obtain⟨q2,P2,i2,d2,b2,hP2⟩:=aNf (u:=(p,q)) (d:=dK k) iP iD nP (aIz ff) (by
   rw[bZ];generalize slH hs L k*slH hs L k=X at *
   clear hP dP nP iP ff fit;grind) nD R1 R2
  obtain⟨q3,P3,i3,d3,b3,hP3⟩:=bB2 (u:=(p,q)) (d:=dK k) i2 d2 b2 iD ff nP.1 (by
   generalize slH hs L k*slH hs L k=X at *
   clear hP dP nP iP ff fit hP2 d2 b2;grind) nD R1 R2
  refine⟨(x,W,P,q3,P3),h1,h3,h4,dP,i3,d3,b3,λR K=>?_⟩;obtain⟨t,iT,hT⟩:=aAx iD;rw[hT];show dV R x.1 x.2 x.1 x.2 (λp1 p2=>dV R p1 p2 t (dK k).1 λp1 p2=>dV R p1 p2 (dK k).1 (dK k).2 K)=_;rw[hP];have e2:=hP2 R (λp1 p2=>dV R p1 p2 (dK k).1 (dK k).2 K);rw[hT]at e2;rw[e2,hP3])
 have hm:rsm (λk=>1005/1000*(1003/1000*(slH hs L k*slH hs L k)*((r:Rat)*(r:Rat)))) n=(n:Rat)*(1005/1000*(1003/1000)*((r:Rat)*(r:Rat))*UH hs L n):=by rw[aAr (g:=λk=>1005/1000*(1003/1000)*((r:Rat)*(r:Rat))*(slH hs L k*slH hs L k)) λk _=>by grind,jD,aK2 T];grind
 have RR1:=aC R1 R1 (by decide) (show 0<=(r:Rat) by grind);have RR2:=aC R2 R2 (show 0<=(r:Rat) by grind) (by decide);obtain⟨g,t,a,b,A,g0,g1,g2,et',hA,iA,nA,τ,ht,t0,dA⟩:=aFw n1 n2 (λk hk=>(hf k hk).2.2.2.2.1) (λk hk=>(hf k hk).2.2.2.2.2.2.1) (λk hk=>by
   have sf:=lE T hk;rw[show 1005/1000*(1003/1000*(slH hs L k*slH hs L k)*((r:Rat)*(r:Rat)))=1005/1000*(1003/1000)*((r:Rat)*(r:Rat))*(slH hs L k*slH hs L k) by grind];exact kB (by grind) (bU sf.1 sf.1) (aI0 sf.2.2 sf.2.2)) (λk hk=>by
   have sf:=lE T hk;have a:slH hs L k*slH hs L k<=1500000000000000000000000000000000000:=cR (aC sf.2.1 sf.2.1 sf.1 (by decide)) (by decide +kernel);have b:=aC a RR2 (by grind) (by decide +kernel);grind) hm
 refine⟨λk=>(f k).1,λk=>(f k).2.2.2.1,g,t,a,b,A,λk hk=>(hf k hk).1,λk hk=>(hf k hk).2.2.2.2.2.2.2,g0,g1,g2,et',hA,iA,nA.mono ?_,?_⟩
 ·have x0:=bU (show 0<=eJ by have:=aCj;grind) (bU (show 0<=(r:Rat)*(r:Rat) by grind) U0);rw[show 1002/1000*(eJ*(1005/1000*(1003/1000)*((r:Rat)*(r:Rat))*UH hs L n))=1002/1000*(1005/1000*(1003/1000))*(eJ*((r:Rat)*(r:Rat)*UH hs L n)) by grind];clear hf dA hA;generalize eJ*((r:Rat)*(r:Rat)*UH hs L n)=X at *
  grind
 have hi:=bE2 T (W:=λk=>(f k).2.1) (Q:=λk=>(f k).2.2.1) (λk hk=>(hf k hk).2.1) (λk hk=>(hf k hk).2.2.1) (λk hk=>(hf k hk).2.2.2.1);have dT:Nm (csm (λk=>(f k).2.2.2.2) n-csm (λk=>(f k).2.2.1*(Cp.I*DK k)*DK k) n) ((n:Rat)*(2017/1000*eps*((r:Rat)*(r:Rat))*UH hs L n)):=by have:=wW (r:=λk=>2010/1000*eps*(1003/1000*(slH hs L k*slH hs L k)*((r:Rat)*(r:Rat)))) (λk hk=>(hf k hk).2.2.2.2.2.1);rw[aAr (g:=λk=>2010/1000*(1003/1000)*eps*((r:Rat)*(r:Rat))*(slH hs L k*slH hs L k)) λk _=>by grind,jD,aK2 T]at this;refine this.mono ?_;have x0:=bU (bN ep) (bU (show 0<=(r:Rat)*(r:Rat) by grind) (bU (show 0<=(n:Rat) by have:=nR T;grind) U0));grind
 have eT:csm (λk=>(f k).2.2.1*(Cp.I*DK k)*DK k) n=Cp.I*C9 ((r:Rat)*(r:Rat))*csm (λk=>z k*z k*(f k).2.2.1) n:=by rw[kQ];exact cA λk hk=>by rw[cCp T,bZn]
 rw[eT]at dT;have k1:Nm (C9 τ*(csm (λk=>(f k).2.2.2.2) n-Cp.I*C9 ((r:Rat)*(r:Rat))*csm (λk=>z k*z k*(f k).2.2.1) n)) (τ*((n:Rat)*(2017/1000*eps*((r:Rat)*(r:Rat))*UH hs L n))):=(oV (by rw[fZ (bN t0)];exact R9)).mul dT;have k2:Nm (C9 τ*(Cp.I*C9 ((r:Rat)*(r:Rat))*(csm (λk=>z k*z k*(f k).2.2.1) n-C9 (n:Rat)*G3 hs s κ))) (τ*(1*((r:Rat)*(r:Rat))*((n:Rat)*(2501/10000000000*UH hs L n)))):=(oV (by rw[fZ (bN t0)];exact R9)).mul ((bM5.mul (oV (by rw[fZ (by grind)];exact R9))).mul hi);have k3:=(dA.add k1).add k2;have e:A-C9 τ*csm (λk=>(f k).2.2.2.2) n+C9 τ*(csm (λk=>(f k).2.2.2.2) n-Cp.I*C9 ((r:Rat)*(r:Rat))*csm (λk=>z k*z k*(f k).2.2.1) n)+C9 τ*(Cp.I*C9 ((r:Rat)*(r:Rat))*(csm (λk=>z k*z k*(f k).2.2.1) n-C9 (n:Rat)*G3 hs s κ))=A-C9 eJ*(Cp.I*(C9 ((r:Rat)*(r:Rat))*G3 hs s κ)):=by
  rw[<-ht];generalize csm (λk=>(f k).2.2.2.2) n=X;generalize csm (λk=>z k*z k*(f k).2.2.1) n=Y;generalize G3 hs s κ=G;generalize (r:Rat)*(r:Rat)=RR;refine E9 ?_ ?_;· simp only[Cp.add_re,S9,T9,Cp.mul_re,Cp.mul_im,Cp.of_re,Cp.of_im];grind
  ·simp only[Cp.add_im,S9,T9,Cp.mul_re,Cp.mul_im,Cp.of_re,Cp.of_im];grind
 rw[e]at k3;refine k3.mono ?_;generalize (r:Rat)*(r:Rat)=RR at *
 have x0:=bU (show 0<=RR by grind) U0;have x1:=bU (show 0<=eJ by have:=aCj;grind) x0;have x3:=cG et x1;have v1:τ*((n:Rat)*(2017/1000*eps*RR*UH hs L n))=2017/1000*(eJ*(RR*UH hs L n)*eps):=by rw[<-ht];grind
 have v2:τ*(1*RR*((n:Rat)*(2501/10000000000*UH hs L n)))=2501/10000000000*(eJ*(RR*UH hs L n)):=by rw[<-ht];grind
 have v3:eJ*(1005/1000*(1003/1000)*RR*UH hs L n)*(520*eps)=1005/1000*(1003/1000)*520*(eJ*(RR*UH hs L n)*eps):=by grind
 rw[v1,v2,v3];clear hf dA k1 k2 k3 e hi dT eT hA;generalize eJ*(RR*UH hs L n)=X at *
 grind
end
theorem bHk(a b:Cp):(a-b).cj=a.cj-b.cj:=E9 (by simp only[Cp.cj_re,S9]) (by simp only[Cp.cj_im,T9];grind)
theorem bLu{c U:Rat}(hc:1<=c)(U0:0<=U)(h:U=0\/(2:Rat)^(-390:Int)<=U):Fit (c*U):=by
 refine kB hc U0 ?_;rcases h with h|h;· exact .inl h
 ·exact .inr (cR (cY (by decide)) h)
section
variable{cx cy r:Int}{S:jO (fI cx) (fI cy) (fI r)}{hs:List Th}{n:Nat}{dK zK:Nat->Nat×Nat}{DK ZK z w:Nat->Cp}{c:Th->Nat×Nat}{C:Th->Cp}{s:Th->Sd}{κ:Th->Cp}{v vM:Th->Nat->Nat×Nat}{V:Th->Nat->Cp}{wM:Th->Nat->Nat}{L:Th->Nat->Rat}(T:Dat True S hs n dK zK dK zK DK ZK DK ZK z w z w c C s κ v vM V wM L)
include T
theorem bD3:∃(a1 a2 am:Nat)(X:Cp)(Mo:Rat),aD Tryz.prog 23 [cW 0 (els hs).length (els hs).length,ciV (fI cx) (fI cy) (fI r),.int .i64 (n:Int)] ⟨1,[(0,.cells (cellsOf (els hs)) 4)]⟩ (rO a1 a2 am 0)/\IsZ a1 a2 X/\Is am Mo/\
  Nm (X-(C9 (-(eJ/2))*(C9 (r:Rat)*G2 hs s κ)).cj) (eJ*((r:Rat)*UH hs L n)*(1252/10000000000))/\(Mo-eJ/2*((r:Rat)*(r:Rat))*(G3 hs s κ).im).abs<=eJ*((r:Rat)*(r:Rat)*UH hs L n)*(1252/10000000000):=by
 have et:=bR;have ep:=bI;obtain⟨R1,R2⟩:=Rq T;obtain⟨n1,n2⟩:=bM1 T;have P6:=aCj;have P7:=aS9;obtain⟨U0,U1,fU⟩:=aA2 T;obtain⟨x,y,A,hq,iA,dA⟩:=bBq T;obtain⟨_,_,_,_,_,_,nG⟩:=aHt T;obtain⟨xs,q,g,t,a,b,B,hx,hterm,g0,g1,g2,et',hB,iB,nB,dB⟩:=aZu T;have RU:=bU (show 0<=(r:Rat) by grind) U0;have PRU:=bU (show 0<=eJ by grind) RU;have RR1:=aC R1 R1 (by decide) (show 0<=(r:Rat) by grind);have RR2:=aC R2 R2 (show 0<=(r:Rat) by grind) (by decide);have RRU:=bU (show 0<=(r:Rat)*(r:Rat) by grind) U0;have PRRU:=bU (show 0<=eJ by grind) RRU;have nT:Nm (C9 eJ*(Cp.I*(C9 (r:Rat)*G2 hs s κ))) (eJ*(1*((r:Rat)*(722725*UH hs L n)))):=(oV (by rw[fZ (by grind)];exact R9)).mul (bM5.mul ((oV (by rw[fZ (by grind)];exact R9)).mul nG));have nA:Nm A (722726*(eJ*((r:Rat)*UH hs L n))):=(dA.near nT).mono (by
  rw[show eJ*(1*((r:Rat)*(722725*UH hs L n)))=722725*(eJ*((r:Rat)*UH hs L n)) by grind];generalize eJ*((r:Rat)*UH hs L n)=Y at *
  grind)
 obtain⟨t1,iT,hT⟩:=aAx iA;have nI:Nm (Cp.I*A) (722726*(eJ*((r:Rat)*UH hs L n))):=(bM5.mul nA).mono (by rw[Rat.one_mul];exact R9);have ah:((1:Rat)/2).abs=1/2:=fZ (by decide +kernel);have cP:1<=361363*eJ*(r:Rat):=by have:=aC (show 1<=361363*eJ by grind) R1 (by decide) (by grind);grind
 have big1:eJ*((r:Rat)*UH hs L n)<=63/10*(2000*1500000000000000000000000000000000000):=aC P7 (aC R2 U1 U0 (by decide)) RU (by decide +kernel);obtain⟨p1,p2,X,iX,dX,hX⟩:=tG iT aEj nI (by
  rw[ah,show 722726*(eJ*((r:Rat)*UH hs L n))*(1/2)=361363*eJ*(r:Rat)*UH hs L n by grind];exact bLu cP U0 fU) (by
  rw[ah,bZ];generalize eJ*((r:Rat)*UH hs L n)=Y at *
  grind)
 obtain⟨p3,iC,hC⟩:=aN8 iX;have big2:eJ*((r:Rat)*(r:Rat)*UH hs L n)<=63/10*(2000*2000*1500000000000000000000000000000000000):=aC P7 (aC RR2 U1 U0 (by decide +kernel)) RRU (by decide +kernel);have nre:=nB.re;have anh:(-((1:Rat)/2)).abs=1/2:=by rw[Rat.abs_neg];exact ah
 have bmo:(-(1/2)*B.re).abs<=51/100*(eJ*((r:Rat)*(r:Rat)*UH hs L n)):=by
  rw[bD,anh];generalize eJ*((r:Rat)*(r:Rat)*UH hs L n)=Y at *
  generalize B.re.abs=Z at *
  clear nG dA dB nT nA nI hx hterm;grind
 have cM:1<=51/100*eJ*((r:Rat)*(r:Rat)):=by have:=aC (show 1<=51/100*eJ by grind) RR1 (by decide +kernel) (by grind);grind
 obtain⟨wm,Mo,em,iM,dM⟩:=wI aSd iB.1 bmo (by
  rw[show 51/100*(eJ*((r:Rat)*(r:Rat)*UH hs L n))=51/100*eJ*((r:Rat)*(r:Rat))*UH hs L n by grind];exact bLu cM U0 fU) (by
  rw[bZ];generalize eJ*((r:Rat)*(r:Rat)*UH hs L n)=Y at *
  clear nG dA dB nT nA nI hx hterm;grind)
 have hF:Fot (cellsOf (els hs)) 4 (els hs).length (els hs).length (fI cx) (fI cy) (fI r) n dK zK xs q:=⟨λk hk R K=>aYs T hk R K,λk hk=>bHj T hk (hx k hk),hterm⟩;have hcall:=of_force (cL (els hs)).2.1 hF (by omega) hq (aFv g0 g1 g2) (u1:=(g n).1) (u2:=(g n).2) rfl (a:=p1) (b:=p3) (w:=wm) (e:=0) λR K=>by unfold foZ;rw[cB,aK et',hB,hT,hX,hC,aK em,nK iC.1 iC.2,T7,rX iM,T7]
 refine⟨p1,p3,wm,X.cj,Mo,hcall,iC,iM,?_,?_⟩
 ·have k1:Nm (C9 (1/2)*(Cp.I*(A-C9 eJ*(Cp.I*(C9 (r:Rat)*G2 hs s κ))))) (1/2*(1*(eJ*((r:Rat)*UH hs L n)*(2502/10000000000)))):=(oV (by rw[ah];exact R9)).mul (bM5.mul dA);have k2:=dX.add k1;have e:X-C9 (1/2)*(Cp.I*A)+C9 (1/2)*(Cp.I*(A-C9 eJ*(Cp.I*(C9 (r:Rat)*G2 hs s κ))))=X-C9 (-(eJ/2))*(C9 (r:Rat)*G2 hs s κ):=by
   generalize C9 (r:Rat)*G2 hs s κ=G;have i1:Cp.I.re=0:=rfl;have i2:Cp.I.im=1:=rfl;refine E9 ?_ ?_;· simp only[Cp.add_re,S9,T9,Cp.mul_re,Cp.mul_im,Cp.of_re,Cp.of_im,i1,i2];grind
   ·simp only[Cp.add_im,S9,T9,Cp.mul_re,Cp.mul_im,Cp.of_re,Cp.of_im,i1,i2];grind
  rw[e]at k2;have k3:=k2.cj;rw[bHk]at k3;refine k3.mono ?_;rw[ah];have eY:=cG (show eps<=1/2251799813685248 by rw[aOk];exact R9) PRU;have eY0:=bU (bN ep) PRU;have v1:eps/2*(722726*(eJ*((r:Rat)*UH hs L n))*(1/2))=722726/4*(eps*(eJ*((r:Rat)*UH hs L n))):=by grind
  rw[v1];generalize eJ*((r:Rat)*UH hs L n)=Y at *
  clear nG dA dB nT nA nI hx hterm k1 k2 k3 e hF hcall dX dM;grind
 ·have k:=(dB.re);have e1:(B-C9 eJ*(Cp.I*(C9 ((r:Rat)*(r:Rat))*G3 hs s κ))).re=B.re+eJ*((r:Rat)*(r:Rat))*(G3 hs s κ).im:=by have i1:Cp.I.re=0:=rfl;have i2:Cp.I.im=1:=rfl;simp only[S9,T9,Cp.mul_re,Cp.mul_im,Cp.of_re,Cp.of_im,i1,i2];grind
  rw[e1]at k;have tri:=aL (Mo - -(1/2)*B.re) (-(1/2)*(B.re+eJ*((r:Rat)*(r:Rat))*(G3 hs s κ).im));rw[bD,anh,show Mo - -(1/2)*B.re+-(1/2)*(B.re+eJ*((r:Rat)*(r:Rat))*(G3 hs s κ).im)=Mo-eJ/2*((r:Rat)*(r:Rat))*(G3 hs s κ).im by grind]at tri;have eY:=cG et PRRU;have eY0:=bU (bN ep) PRRU;generalize (Mo-eJ/2*((r:Rat)*(r:Rat))*(G3 hs s κ).im).abs=G at *
  generalize (B.re+eJ*((r:Rat)*(r:Rat))*(G3 hs s κ).im).abs=Z at *
  generalize (Mo - -(1/2)*B.re).abs=W at *
  generalize eJ*((r:Rat)*(r:Rat)*UH hs L n)=Y at *
  clear nG dA dB nT nA nI hx hterm hF hcall dX;grind
end
def sW(r:Int)(ν:Nat):Rat:=(mP ν:Rat)*((r:Rat)⁻¹)^ν
def WN(ν:Nat):Rat:=((1-qB)⁻¹)^(ν+1)
theorem bJ0{ν:Nat}(h:ν<=8):1<=WN ν/\WN ν<=593:=by refine⟨?_,aYr (by omega)⟩;have:=eU (r:=(1-qB)⁻¹) (by unfold qB;decide +kernel) (show 0<=ν+1 by omega);rwa[Rat.pow_zero]at this
theorem aQo{r:Int}{ν:Nat}(R1:(1:Rat)<=(r:Rat))(R2:(r:Rat)<=2000)(h8:ν<=8):1/1000000000000000000000000000<=sW r ν/\sW r ν<=40320:=by have:=aT7 (X:=⟨3,0,0,0,0,(ν:Int)⟩) R1 R2 (by show Int.toNat (ν:Int)<=8;omega);exact this
def dP(r:Int)(κ:Th->Cp)(s:Th->Sd)(b:Cp)(ν:Nat)(Y:Th):Cp:=κ Y*C9 (sW r ν)*Fv b (aPs (s Y)) (ν+1)
section
variable{GM:Prop}{cx cy r:Int}{S:jO (fI cx) (fI cy) (fI r)}{hs:List Th}{n:Nat}{dK zK dM zM:Nat->Nat×Nat}{DK ZK DM ZM z w zm wm:Nat->Cp}{c:Th->Nat×Nat}{C:Th->Cp}{s:Th->Sd}{κ:Th->Cp}{v vM:Th->Nat->Nat×Nat}{V:Th->Nat->Cp}{wM:Th->Nat->Nat}{L:Th->Nat->Rat}(T:Dat GM S hs n dK zK dM zM DK ZK DM ZM z w zm wm c C s κ v vM V wM L)
def qV{cx cy r:Int}(S:jO (fI cx) (fI cy) (fI r))(hs:List Th):List Th:=hs.filter λh=>!gV S h
def mC{cx cy r:Int}(S:jO (fI cx) (fI cy) (fI r))(hs:List Th):List Th:=hs.filter (gV S)
def plP(cx cy r x y:Int):Cp:=C9 ((r:Rat))⁻¹*gz (x-cx) (y-cy)
structure AtF{cx cy r:Int}(S:jO (fI cx) (fI cy) (fI r))(hs:List Th)(n:Nat)(L:Th->Nat->Rat)(s:Th->Sd)(κ:Th->Cp)(x y:Int)(ν:Nat)(u:Nat×Nat)(Z:Cp):Prop where
 call:∀iv,aD Tryz.prog 68 [.pointer (some ⟨0,0,none⟩),.complex .f64 (fI x) (fI y),.int .i64 (ν:Int)] (atM (els (qV S hs)) iv) (.complex .f64 u.1 u.2)
 iZ:IsZ u.1 u.2 Z
 near:Nm (Z-lsm (dP r κ s (plP cx cy r x y) ν) (qV S hs)) (111*eps*(601*(sW r ν*WN ν)*MH hs L n))
 size:Nm (lsm (dP r κ s (plP cx cy r x y) ν) (qV S hs)) (6006/10*(sW r ν*WN ν)*MH hs L n)
 most:Nm Z (602*(sW r ν*WN ν)*MH hs L n)
include T
theorem aJx{Y:Th}(h:Y∈qV S hs):Y∈hs/\gV S Y=false:=by obtain⟨p,q⟩:=List.mem_filter.1 h;exact⟨p,by simpa using q⟩
theorem bMb{X:Th}(h:X∈mC S hs):X∈hs/\gV S X=true:=List.mem_filter.1 h
theorem bK0{X Y:Th}(hX:X∈hs)(hY:Y∈hs)(iX:gV S X=true)(iY:gV S Y=false){ν:Nat}(hν:ν<=nuH X):Nm (dP r κ s (plP cx cy r X.x X.y) ν Y) (6006/10*(sW r ν*WN ν)*mT L n Y):=by
 obtain⟨R1,R2⟩:=Rq T;obtain⟨a,b,h8,bX,_⟩:=oS T hX iX;have o:=tL T hY iY;obtain⟨W2,mY0,bY,_⟩:=sO T hY;have okX:=(T.E X hX).side.ok;have okY:=(T.E Y hY).side.ok;have t0:=aQo R1 R2 (show ν<=8 by omega);have fv:Nm (Fv (plP cx cy r X.x X.y) (aPs (s Y)) (ν+1)) (1001/1000*(WN ν*(s Y).W)):=by rw[a]at okX;rw[o]at okY;have:=aRy T.P.pz T.P.pw T.P.zw (aC0 T) (q:=ν+1) ⟨okX.1,by omega,by omega⟩ okY;rw[<-o,show(Sd.inn (gmm cx cy r X) qB (ν+1)).W=WN ν from aCm _ _ _]at this;exact this
 unfold dP;have k:=(bY.mul (oV (x:=sW r ν) (r:=sW r ν) (by rw[fZ (by grind)];exact R9))).mul fv;refine k.mono ?_;have e:600*mT L n Y/(s Y).W*sW r ν*(1001/1000*(WN ν*(s Y).W))=(600*mT L n Y/(s Y).W*(s Y).W)*(sW r ν*(1001/1000*WN ν)):=by grind
 rw[e,Rat.div_mul_cancel (by grind)];grind
theorem bYl{X:Th}(hX:X∈hs)(iX:gV S X=true){ν:Nat}(hν:ν<=nuH X):∃u Z,AtF S hs n L s κ X.x X.y ν u Z:=by
 have ep:=bI;have et:=bR;obtain⟨R1,R2⟩:=Rq T;have M0:=tI T;have l6:=T.good.len6;obtain⟨a,b,h8,bX,D⟩:=oS T hX iX;have t0:=aQo R1 R2 (show ν<=8 by omega);have w0:=bJ0 (show ν<=8 by omega);have tW0:1/1000000000000000000000000000<=sW r ν*WN ν:=by have:=aC t0.1 w0.1 (by decide) (by grind);grind
 have tW1:sW r ν*WN ν<=40320*593:=aC t0.2 w0.2 (by grind) (by decide);have c0:0<=sW r ν*WN ν:=by grind
 obtain⟨dv,hdv⟩:=bFj (β:=(Nat×Nat)×Cp) (l:=qV S hs) (p:=λY x=>IsZ x.1.1 x.1.2 x.2/\Rl x.2 (dP r κ s (plP cx cy r X.x X.y) ν Y) (105*eps)/\bJp (fI X.x) (fI X.y) (ν:Int) Y.el x.1) (λY hm=>by obtain⟨hY,iY⟩:=aJx T hm;have DY:=T.D Y hY;rw[iY]at DY;obtain⟨u,V',l,e,i,d,_,f⟩:=bRz (T.good.fine X hX) (T.good.fine Y hY) R1 bX DY (ν:=ν) (by omega);refine⟨(u,V'),i,?_,f⟩;unfold dP;rw[e];rw[show C9 (mP ν:Rat)*(C9 ((r:Rat))⁻¹).pw ν=C9 (sW r ν) by unfold sW;rw[bM9,<-Cp.of_mul_of]]at d;exact d);have sz:=λY (hm:Y∈qV S hs)=>bK0 T hX (aJx T hm).1 iX (aJx T hm).2 hν
 obtain⟨f,O,sT,iO,dO,nO⟩:=aDd (ys:=qV S hs) (wf:=λY=>(dv Y).1) (vf:=λY=>(dv Y).2) (bf:=λY=>601*(sW r ν*WN ν)*mT L n Y) (B:=601*(sW r ν*WN ν)*MH hs L n) (Nat.le_trans (List.length_filter_le _ _) l6) (λY hY=>(hdv Y hY).1) (λY hY=>by
   have e:=((hdv Y hY).2.1.err (sz Y hY)).near (sz Y hY);refine e.mono ?_;have y0:=bU c0 (sO T (aJx T hY).1).2.1;have ey:=cG et y0;rw[Rat.mul_assoc (6006/10),Rat.mul_assoc 601];generalize sW r ν*WN ν*mT L n Y=x at *
   clear sz hdv e;grind) (by
   rw[mI];exact dI (pK T _) (by grind)) (tY (by grind) M0.2.2) (by
   have:=aC (show 601*(sW r ν*WN ν)<=601*(40320*593) by grind) M0.2.1 M0.1 (by decide +kernel);rw[bZ];grind)
 have k1:Nm (lsm (λY=>(dv Y).2) (qV S hs)-lsm (dP r κ s (plP cx cy r X.x X.y) ν) (qV S hs)) (105*eps*(601*(sW r ν*WN ν)*MH hs L n)):=by
  have:=xI (f:=λY=>(dv Y).2) (g:=dP r κ s (plP cx cy r X.x X.y) ν) (b:=λY=>6006/10*(sW r ν*WN ν)*(105*eps)*mT L n Y) (ys:=qV S hs) (λY hY=>((hdv Y hY).2.1.err (sz Y hY)).mono (by grind));refine this.mono ?_;rw[mI];have h2:=dI (pK T (λh=>!gV S h)) (show 0<=6006/10*(sW r ν*WN ν)*(105*eps) from bU (by grind) (by grind));refine cR h2 ?_;have x0:=bU (bU c0 M0.1) (bN ep);generalize sW r ν*WN ν=y at *
  grind
 have k3:Nm (lsm (dP r κ s (plP cx cy r X.x X.y) ν) (qV S hs)) (6006/10*(sW r ν*WN ν)*MH hs L n):=by refine(aSj sz).mono ?_;rw[mI];exact dI (pK T _) (by grind)
 have hl:((qV S hs).map λY=>(dv Y).1).length=(qV S hs).length:=by simp
 rw[hl]at iO;refine⟨f (qV S hs).length,O,⟨λiv=>?_,iO,(dO.tri k1).mono (by grind),k3,nO.mono ?_⟩⟩
 ·have ey:=jZ (qV S hs);rcases Nat.eq_zero_or_pos (qV S hs).length with h0|h0
  ·have e0:qV S hs=[]:=List.eq_nil_of_length_eq_zero h0;rw[e0]at sT⊢;rw[show f ([]:List Th).length=(0,0) from sT.zero];exact bC6
  ·have el6:=List.length_filter_le (λh=>!gV S h) hs;have e:lst (λi=>(dv ((qV S hs).getD i default)).1) (els (qV S hs)).length=(qV S hs).map λY=>(dv Y).1:=by unfold lst;rw[ey,show(λi=>(dv ((qV S hs).getD i default)).1)=(λY=>(dv Y).1)∘(λi=>(qV S hs).getD i default) from rfl,<-List.map_map,aAk]
   have hc:=bKd (ys:=els (qV S hs)) (a1:=fI X.x) (a2:=fI X.y) (m:=(ν:Int)) (iv:=iv) (v:=λi=>(dv ((qV S hs).getD i default)).1) (g:=f) (x:=(f (qV S hs).length).1) (y:=(f (qV S hs).length).2) (by omega) (by unfold qV at *;omega) (λi Y hi=>by
    unfold els at hi;rw[List.getElem?_map]at hi;cases hg:(qV S hs)[i]? with
    |none=>rw[hg]at hi;cases hi
    |some Y'=>
     rw[hg]at hi;cases hi;have e2:(qV S hs).getD i default=Y':=by rw[List.getD_eq_getElem?_getD,hg];rfl
     show bJp _ _ _ _ (dv ((qV S hs).getD i default)).1;rw[e2];exact(hdv Y' (List.mem_of_getElem? hg)).2.2) (by rw[e];exact sT) (by rw[ey])
   unfold atM;revert hc;rw[ey];cases hz:els (qV S hs) with
   |nil=>rw[hz]at ey;simp at ey;omega
   |cons Y l=>obtain⟨q,hq⟩:∃q,(qV S hs).length=q+1:=⟨(qV S hs).length-1,by omega⟩;rw[hq];exact λhc=>hc
 ·have x0:=bU c0 M0.1;rw[Rat.mul_assoc 601,Rat.mul_assoc 602];generalize sW r ν*WN ν*MH hs L n=y at *
  clear sz hdv dO nO k1 k3;grind
theorem bQ4:∃f:Nat->Nat->Int->(Nat×Nat)×Cp,∀X∈hs,gV S X=true->∀ν:Nat,ν<=nuH X->AtF S hs n L s κ X.x X.y ν (f (fI X.x) (fI X.y) (ν:Int)).1 (f (fI X.x) (fI X.y) (ν:Int)).2:=by
 have key:∀t:Nat×Nat×Int,∃p:(Nat×Nat)×Cp,∀X∈hs,gV S X=true->∀ν:Nat,ν<=nuH X->fI X.x=t.1->fI X.y=t.2.1->(ν:Int)=t.2.2->AtF S hs n L s κ X.x X.y ν p.1 p.2:=λt=>by
  by_cases h:∃X,X∈hs/\gV S X=true/\∃ν:Nat,ν<=nuH X/\fI X.x=t.1/\fI X.y=t.2.1/\(ν:Int)=t.2.2
  ·obtain⟨X,hX,iX,ν,hν,e1,e2,e3⟩:=h;obtain⟨u,Z,hA⟩:=bYl T hX iX hν;refine⟨(u,Z),λX' hX' iX' ν' hν' e1' e2' e3'=>?_⟩;have b:=(T.good.fine X hX).xy;have b':=(T.good.fine X' hX').xy;have q1:X'.x=X.x:=Go.Vx.xW (by omega) (by omega) (by rw[e1,e1']);have q2:X'.y=X.y:=Go.Vx.xW (by omega) (by omega) (by rw[e2,e2']);have q3:ν'=ν:=by omega
   rw[q1,q2,q3];exact hA
  ·exact⟨((0,0),Z9),λX hX iX ν hν e1 e2 e3=>absurd ⟨X,hX,iX,ν,hν,e1,e2,e3⟩ h⟩
 obtain⟨f,hf⟩:=Classical.axiomOfChoice key;exact⟨λa b m=>f (a,b,m),λX hX iX ν hν=>hf (fI X.x,fI X.y,(ν:Int)) X hX iX ν hν rfl rfl rfl⟩
end
def pG(h:Th):Bool:=h.kind==2
def mX(cx cy r:Int){S:jO (fI cx) (fI cy) (fI r)}(hs:List Th)(s:Th->Sd)(κ C:Th->Cp)(X:Th):Cp:=
 bif pG X then C X*gz (X.x-cx) (X.y-cy)*lsm (dP r κ s (plP cx cy r X.x X.y) 0) (qV S hs)
 else Fx X (C X)*(gz (X.x-cx) (X.y-cy)*lsm (dP r κ s (plP cx cy r X.x X.y) (nuH X)) (qV S hs)+C9 (nuH X:Rat)*lsm (dP r κ s (plP cx cy r X.x X.y) (nuH X-1)) (qV S hs))
theorem aT8{r:Int}(hR:(r:Rat)≠0):∀{ν:Nat},1<=ν->(ν:Rat)*sW r (ν-1)=(r:Rat)*sW r ν
 |ν+1,_=>by
  unfold sW;rw[Nat.add_sub_cancel];show((ν+1:Nat):Rat)*((mP ν:Rat)*((r:Rat)⁻¹)^ν)=(r:Rat)*((((ν+1)*mP ν:Nat):Rat)*((r:Rat)⁻¹)^(ν+1));rw[Rat.pow_succ];have:=Rat.mul_inv_cancel _ hR;push_cast;generalize ((r:Rat))⁻¹=i at *
  generalize i^ν=p at *
  generalize (mP ν:Rat)=f at *
  generalize (ν:Rat)=k at *
  have e:(r:Rat)*((k+1)*f*(p*i))=((r:Rat)*i)*((k+1)*(f*p)):=by grind
  rw[e,this];grind
theorem bMr{α:Type}[Inhabited α](a:Cp)(f:α->Cp)(ys:List α):lsm (λy=>a*f y) ys=a*lsm f ys:=by rw[wH,wH,kQ]
section
variable{GM:Prop}{cx cy r:Int}{S:jO (fI cx) (fI cy) (fI r)}{hs:List Th}{n:Nat}{dK zK dM zM:Nat->Nat×Nat}{DK ZK DM ZM z w zm wm:Nat->Cp}{c:Th->Nat×Nat}{C:Th->Cp}{s:Th->Sd}{κ:Th->Cp}{v vM:Th->Nat->Nat×Nat}{V:Th->Nat->Cp}{wM:Th->Nat->Nat}{L:Th->Nat->Rat}(T:Dat GM S hs n dK zK dM zM DK ZK DM ZM z w zm wm c C s κ v vM V wM L)
include T
theorem rE{X:Th}(hX:X∈hs)(iX:gV S X=true):(pG X=true/\X.kind=2/\nuH X=0/\Fx X (C X)=C X)\/(pG X=false/\X.kind=3/\1<=nuH X/\nuH X<=8/\X.p=(nuH X:Int)):=by
 rcases aOw T.good hX with k|k|⟨k,m,m1,m8,hp⟩|⟨k,m,m1,m4,hp⟩;· unfold gV at iX;rw[k]at iX;cases iX
 ·left;refine⟨by unfold pG;rw[k];rfl,k,by unfold nuH;rw[if_pos k],by unfold Fx;rw[if_pos k]⟩
 ·right;have e:nuH X=m:=by unfold nuH;rw[if_neg (by rw[k];decide),hp];rfl
  exact⟨by unfold pG;rw[k];rfl,k,by omega,by omega,by rw[e];exact hp⟩
 ·unfold gV at iX;rw[k]at iX;cases iX
theorem bFh{X Y:Th}(hX:X∈hs)(hY:Y∈hs)(iX:gV S X=true)(iY:gV S Y=false):
  C9 ((r:Rat)*(r:Rat))*(κ X*κ Y*(s X).pairM (s Y))=bif pG X then C X*gz (X.x-cx) (X.y-cy)*dP r κ s (plP cx cy r X.x X.y) 0 Y
   else Fx X (C X)*(gz (X.x-cx) (X.y-cy)*dP r κ s (plP cx cy r X.x X.y) (nuH X) Y+C9 (nuH X:Rat)*dP r κ s (plP cx cy r X.x X.y) (nuH X-1) Y):=by
 have Rn:=Rne T;obtain⟨a,b,_,_,_⟩:=oS T hX iX;have o:=tL T hY iY;have eD:gz (X.x-cx) (X.y-cy)=C9 (r:Rat)*plP cx cy r X.x X.y:=(aE8 Rn _).symm;have e:(s X).pairM (s Y)=Fv (plP cx cy r X.x X.y) (upL (aPs (s Y))) (nuH X+1):=by rw[a,o];rfl
 have e2:Fv (plP cx cy r X.x X.y) (upL (aPs (s Y))) (nuH X+1)=Fv (plP cx cy r X.x X.y) (aPs (s Y)) (nuH X)+(plP cx cy r X.x X.y-Z9)*Fv (plP cx cy r X.x X.y) (aPs (s Y)) (nuH X+1):=rfl;have e3:plP cx cy r X.x X.y-Z9=plP cx cy r X.x X.y:=uM _;have eb:Fx X (C X)*C9 (sW r (nuH X))=C9 (r:Rat)*κ X:=b;rw[e,e2,e3,eD,Cp.of_mul_of];rcases rE T hX iX with ⟨k,_,q0,qF⟩|⟨k,_,q1,_,_⟩
 ·rw[k,T7];rw[qF,q0]at eb;rw[q0,aNt,Cp.zero_add];unfold dP;generalize Fv (plP cx cy r X.x X.y) (aPs (s Y)) (0+1)=F;generalize plP cx cy r X.x X.y=g;have e4:C X*(C9 (r:Rat)*g)*(κ Y*C9 (sW r 0)*F)=(C X*C9 (sW r 0))*(C9 (r:Rat)*(κ Y*(g*F))):=by simp only[M9,Cp.mul_left_comm,Cp.mul_comm]
  rw[e4,eb];simp only[M9,Cp.mul_left_comm,Cp.mul_comm]
 ·rw[k,F7];unfold dP;have et:C9 (nuH X:Rat)*C9 (sW r (nuH X-1))=C9 (r:Rat)*C9 (sW r (nuH X)):=by rw[<-Cp.of_mul_of,<-Cp.of_mul_of,aT8 Rn q1]
  rw[show nuH X-1+1=nuH X by omega];generalize Fv (plP cx cy r X.x X.y) (aPs (s Y)) (nuH X+1)=F;generalize Fv (plP cx cy r X.x X.y) (aPs (s Y)) (nuH X)=F';generalize plP cx cy r X.x X.y=g;have e5:C9 (nuH X:Rat)*(κ Y*C9 (sW r (nuH X-1))*F')=(C9 (nuH X:Rat)*C9 (sW r (nuH X-1)))*(κ Y*F'):=by simp only[M9,Cp.mul_left_comm,Cp.mul_comm]
  have e4:Fx X (C X)*(C9 (r:Rat)*g*(κ Y*C9 (sW r (nuH X))*F)+C9 (r:Rat)*C9 (sW r (nuH X))*(κ Y*F'))=(Fx X (C X)*C9 (sW r (nuH X)))*(C9 (r:Rat)*(κ Y*(F'+g*F))):=by rw[Cp.mul_add (Fx X (C X)),Cp.mul_add (κ Y),Cp.mul_add (C9 (r:Rat)),Cp.mul_add (Fx X (C X)*C9 (sW r (nuH X))),Cp.add_comm];congr 1<;>simp only[M9,Cp.mul_left_comm,Cp.mul_comm]
  rw[e5,et,e4,eb];simp only[M9,Cp.mul_left_comm,Cp.mul_comm]
theorem bYe:C9 ((r:Rat)*(r:Rat))*G3 hs s κ=lsm C ((mC S hs).filter pG)*lsm C ((mC S hs).filter pG)+C9 2*lsm (mX cx cy r (S:=S) hs s κ C) (mC S hs):=by
 have f1:(mC S hs).filter pG=hs.filter λh=>pG h&&gV S h:=by unfold mC;rw[List.filter_filter]
 have hl:=λ(X:Th)(ν:Nat)=>oF (dP r κ s (plP cx cy r X.x X.y) ν) (Hn hs) (λh=>!gV S h) hs.length
 have hl2:=oF (mX cx cy r (S:=S) hs s κ C) (Hn hs) (gV S) hs.length;have hl3:=oF C (Hn hs) (λh=>pG h&&gV S h) hs.length;rw[xB]at hl2 hl3;simp only[xB]at hl;rw[f1,hl3];unfold mC;rw[hl2]
 let A:Nat->Nat->Cp:=λi j=>bif gV S (Hn hs i) && !gV S (Hn hs j) then κ (Hn hs i)*κ (Hn hs j)*(s (Hn hs i)).pairM (s (Hn hs j)) else Z9
 let k1:Nat->Cp:=λi=>bif pG (Hn hs i)&&gV S (Hn hs i) then κ (Hn hs i) else Z9
 have e1:G3 hs s κ=csm k1 hs.length*csm k1 hs.length+(csm (λi=>csm (λj=>A i j) hs.length) hs.length+csm (λi=>csm (λj=>A j i) hs.length) hs.length):=by
  unfold G3;rw[aD7,<-oN,<-oN];refine cA λi hi=>?_
  rw[<-oN,<-oN];refine cA λj hj=>?_
  have mi:=oJ hi;have mj:=oJ hj;show _=(bif pG (Hn hs i)&&gV S (Hn hs i) then κ (Hn hs i) else Z9)*(bif pG (Hn hs j)&&gV S (Hn hs j) then κ (Hn hs j) else Z9)+((bif gV S (Hn hs i) && !gV S (Hn hs j) then _ else Z9)+(bif gV S (Hn hs j) && !gV S (Hn hs i) then _ else Z9));cases a:gV S (Hn hs i) with
  |true=>
   cases b:gV S (Hn hs j) with
   |true=>
    rw[(oS T mi a).1,(oS T mj b).1];show κ (Hn hs i)*κ (Hn hs j)*(bif Nat.beq (nuH (Hn hs i)+1+(nuH (Hn hs j)+1)) 2 then O9 else Z9)=_+(Z9+Z9);rw[Cp.add_zero,Cp.add_zero];rcases rE T mi a with ⟨ki,_,qi,_⟩|⟨ki,_,qi,_,_⟩
    ·rcases rE T mj b with ⟨kj,_,qj,_⟩|⟨kj,_,qj,_,_⟩
     ·rw[ki,kj,qi,qj];show _*O9=_;rw[Cp.mul_one];rfl
     ·have:Nat.beq (nuH (Hn hs i)+1+(nuH (Hn hs j)+1)) 2=false:=by
       cases h:Nat.beq (nuH (Hn hs i)+1+(nuH (Hn hs j)+1)) 2 with
       |true=>have:=gO h;omega
       |false=>rfl
      rw[ki,kj,this];show _*Z9=_*Z9;rw[Cp.mul_zero,Cp.mul_zero]
    ·have:Nat.beq (nuH (Hn hs i)+1+(nuH (Hn hs j)+1)) 2=false:=by
      cases h:Nat.beq (nuH (Hn hs i)+1+(nuH (Hn hs j)+1)) 2 with
      |true=>have:=gO h;omega
      |false=>rfl
     rw[ki,this];show _*Z9=Z9*_;rw[Cp.mul_zero,Cp.zero_mul]
   |false=>rw[Bool.and_false];show _=_*Z9+(_+Z9);rw[Cp.mul_zero,Cp.zero_add,Cp.add_zero];rfl
  |false=>
   rw[Bool.and_false];cases b:gV S (Hn hs j) with
   |true=>show _=Z9*_+(Z9+_);rw[Cp.zero_mul,Cp.zero_add,Cp.zero_add];show _=κ (Hn hs j)*κ (Hn hs i)*(s (Hn hs j)).pairM (s (Hn hs i));rw[(oS T mj b).1,tL T mi a,Cp.mul_comm (κ (Hn hs i))];rfl
   |false=>show _=Z9*_+(Z9+Z9);rw[Cp.zero_mul,Cp.add_zero,Cp.add_zero,tL T mi a,tL T mj b];show _*Z9=_;rw[Cp.mul_zero]
 have e2:csm (λi=>csm (λj=>A j i) hs.length) hs.length=csm (λi=>csm (λj=>A i j) hs.length) hs.length:=zI (λi k=>A i k) hs.length hs.length;have e3:C9 ((r:Rat)*(r:Rat))*csm (λi=>csm (λj=>A i j) hs.length) hs.length=csm (λi=>bif gV S (Hn hs i) then mX cx cy r (S:=S) hs s κ C (Hn hs i) else Z9) hs.length:=by
  rw[kQ];refine cA λi hi=>?_
  have mi:=oJ hi;cases a:gV S (Hn hs i) with
  |true=>
   rw[T7];have e4:mX cx cy r (S:=S) hs s κ C (Hn hs i)=csm (λj=>bif !gV S (Hn hs j) then(bif pG (Hn hs i) then C (Hn hs i)*gz ((Hn hs i).x-cx) ((Hn hs i).y-cy)*dP r κ s (plP cx cy r (Hn hs i).x (Hn hs i).y) 0 (Hn hs j)
     else Fx (Hn hs i) (C (Hn hs i))*(gz ((Hn hs i).x-cx) ((Hn hs i).y-cy)*dP r κ s (plP cx cy r (Hn hs i).x (Hn hs i).y) (nuH (Hn hs i)) (Hn hs j)+C9 (nuH (Hn hs i):Rat)*dP r κ s (plP cx cy r (Hn hs i).x (Hn hs i).y) (nuH (Hn hs i)-1) (Hn hs j))) else Z9) hs.length:=by
    unfold mX qV;rw[hl,hl,hl];cases pG (Hn hs i) with
    |true=>
     rw[T7,kQ];refine cA λj _=>?_
     cases gV S (Hn hs j) with
     |true=>show _*Z9=Z9;rw[Cp.mul_zero]
     |false=>rfl
    |false=>
     rw[F7,kQ,kQ,<-oN,kQ];refine cA λj _=>?_
     cases gV S (Hn hs j) with
     |true=>show _*(_*Z9+_*Z9)=Z9;rw[Cp.mul_zero,Cp.mul_zero,Cp.add_zero,Cp.mul_zero]
     |false=>rfl
   rw[e4,kQ];refine cA λj hj=>?_
   have mj:=oJ hj;show C9 ((r:Rat)*(r:Rat))*(bif gV S (Hn hs i) && !gV S (Hn hs j) then _ else Z9)=_;rw[a];cases b:gV S (Hn hs j) with
   |true=>show _*Z9=Z9;rw[Cp.mul_zero]
   |false=>exact bFh T mi mj a b
  |false=>
   rw[F7];have:csm (λj=>A i j) hs.length=csm (λ_=>Z9) hs.length:=cA λj hj=>by show(bif gV S (Hn hs i) && !gV S (Hn hs j) then _ else Z9)=_;rw[a];rfl
   rw[this,zJ,Cp.mul_zero]
 have e5:C9 (r:Rat)*csm k1 hs.length=csm (λi=>bif pG (Hn hs i)&&gV S (Hn hs i) then C (Hn hs i) else Z9) hs.length:=by
  rw[kQ];refine cA λi hi=>?_
  have mi:=oJ hi;show C9 (r:Rat)*(bif pG (Hn hs i)&&gV S (Hn hs i) then κ (Hn hs i) else Z9)=_;cases a:gV S (Hn hs i) with
  |true=>
   rcases rE T mi a with ⟨ki,_,qi,qF⟩|⟨ki,_⟩;· rw[ki];have b:=(oS T mi a).2.1;rw[qF,show pH r (Hn hs i)=1 by unfold pH;rw[qi,Rat.pow_zero,Rat.mul_one];rfl,show C9 1=O9 from rfl,Cp.mul_one]at b;exact b.symm
   ·rw[ki];exact Cp.mul_zero _
  |false=>rw[Bool.and_false];exact Cp.mul_zero _
 rw[e1,e2,<-e3,<-e5,Cp.of_mul_of];generalize csm (λi=>csm (λj=>A i j) hs.length) hs.length=X;generalize csm k1 hs.length=Y;refine E9 ?_ ?_;· simp only[Cp.mul_re,Cp.of_re,Cp.of_im,Cp.add_re,Cp.add_im,Cp.mul_im];grind
 ·simp only[Cp.mul_im,Cp.of_re,Cp.of_im,Cp.add_re,Cp.add_im,Cp.mul_re];grind
end
theorem cFq:Is 4611686018427387904 (2:Rat):=aEk
theorem bB7{A B C D X Y:Cp}{a b e1 e2 e3:Rat}(h1:Nm (X-Y*C) e1)(h2:Nm (Y-A*B) e2)(hC:Nm C b)(hA:Nm (A*B) a)(h3:Nm (C-D) e3):Nm (X-A*B*D) (e1+(e2*b+a*e3)):=by
 have k1:=h2.mul hC;have k2:=hA.mul h3;have k:=h1.add (k1.add k2);rw[show X-Y*C+((Y-A*B)*C+A*B*(C-D))=X-A*B*D by rw[Cp.sub_mul,Cp.mul_sub];generalize Y*C=y;generalize A*B*C=x;generalize A*B*D=w;exact E9 (by simp only[Cp.add_re,S9];grind) (by simp only[Cp.add_im,T9];grind)]at k;exact k
theorem aHz{p q:Nat}{P M:Cp}{E a b:Rat}(iP:IsZ p q P)(nP:Nm P (a*E))(dP:Nm (P-M) (b*eps*E))(a1:1<=a)(a2:a<=550000)(b1:b<=64000000)(E0:0<=E)(fE:E=0\/(2:Rat)^(-400:Int)<=E)(E1:E<=100000000000000000000000000000000000000000000):
  ∃q1 q2 Q,IsZ q1 q2 Q/\Nm (Q-C9 2*M) (130000000*eps*E)/\Nm Q (1200000*E)/\∀(R:Type)(K:KNN R),eQ R p q 4611686018427387904 K=K q1 q2:=by
 have ep:=bI;have et:=bR;have a22:(2:Rat).abs=2:=fZ (by decide);have aE:=cG a2 E0;obtain⟨q1,q2,Q,iQ,dQ,hQ⟩:=tG iP cFq nP (by rw[a22,show a*E*2=2*a*E by grind];exact kB (by grind) E0 fE) (by rw[a22,bZ];grind);have k1:Nm (C9 2*(P-M)) (2*(b*eps*E)):=(oV (by rw[a22];exact R9)).mul dP;have k2:=dQ.add k1;rw[show Q-C9 2*P+C9 2*(P-M)=Q-C9 2*M by rw[Cp.mul_sub];exact E9 (by simp only[Cp.add_re,S9];grind) (by simp only[Cp.add_im,T9];grind),a22]at k2;have n2:Nm (C9 2*P) (2*(a*E)):=(oV (by rw[a22];exact R9)).mul nP;have eE:=bU (bN ep) E0;have eaE:=dI aE (bN ep);have beE:=cG b1 eE;have etE:=cG et E0;refine⟨q1,q2,Q,iQ,k2.mono ?_,(dQ.near n2).mono ?_,hQ⟩;· clear dQ k1 k2 n2 hQ;grind
 ·rw[a22];clear dQ k1 k2 n2 hQ;grind
section
variable{GM:Prop}{cx cy r:Int}{S:jO (fI cx) (fI cy) (fI r)}{hs:List Th}{n:Nat}{dK zK dM zM:Nat->Nat×Nat}{DK ZK DM ZM z w zm wm:Nat->Cp}{c:Th->Nat×Nat}{C:Th->Cp}{s:Th->Sd}{κ:Th->Cp}{v vM:Th->Nat->Nat×Nat}{V:Th->Nat->Cp}{wM:Th->Nat->Nat}{L:Th->Nat->Rat}(T:Dat GM S hs n dK zK dM zM DK ZK DM ZM z w zm wm c C s κ v vM V wM L)
def EX(r:Int)(hs:List Th)(L:Th->Nat->Rat)(n:Nat)(X:Th):Rat:=(r:Rat)*(r:Rat)*(mT L n X*MH hs L n)
include T
theorem aZo{X:Th}(hX:X∈hs):mT L n X<=MH hs L n:=by rw[bQ0 T];exact bB3.lsr_one (λh hm=>(sO T hm).2.1) hX
theorem aQw{X:Th}(hX:X∈hs):0<=EX r hs L n X/\EX r hs L n X<=100000000000000000000000000000000000000000000/\(EX r hs L n X=0\/(2:Rat)^(-400:Int)<=EX r hs L n X):=by
 obtain⟨R1,R2⟩:=Rq T;obtain⟨M0,M1,fM⟩:=tI T;obtain⟨_,m0,_,fm⟩:=sO T hX;have m1:=aZo T hX;have mM0:=bU m0 M0;have RR1:=aC R1 R1 (by decide) (show 0<=(r:Rat) by grind);have RR2:=aC R2 R2 (show 0<=(r:Rat) by grind) (by decide);have mM1:=aC (cR m1 M1) M1 M0 (by decide);unfold EX;refine⟨bU (by grind) mM0,cR (aC RR2 mM1 mM0 (by decide +kernel)) (by decide +kernel),?_⟩;refine kB (by grind) mM0 ?_;rcases fm with h|h;· left;rw[h];grind
 rcases fM with g|g;· left;rw[g];grind
 right;have e:=aC h g (bN (bG _)) m0;rwa[<-bO,show(-200+-200:Int)=-400 by decide]at e
theorem aUc{X:Th}(hX:X∈hs)(iX:gV S X=true):∃d1 d2,IsZ d1 d2 (gz (X.x-cx) (X.y-cy))/\Nm (gz (X.x-cx) (X.y-cy)) (5075/10000*(r:Rat))/\∀(R:Type)(K:KNN R),gJ R (fI X.x) (fI X.y) (fI cx) (fI cy) K=K d1 d2:=by have f:=T.good.fine X hX;have b:=f.xy;have bc:=aCo T.good.c;obtain⟨R1,R2⟩:=Rq T;have hcc:IsC (fI cx) (fI cy) cx cy:=⟨jF (by omega),jF (by omega)⟩;obtain⟨d1,d2,hd,hsub⟩:=aDk f.at hcc (by omega) (by omega);refine⟨d1,d2,aJc hd,?_,hsub⟩;have bX:=(oS T hX iX).2.2.2.1;have e:gz (X.x-cx) (X.y-cy)=C9 (r:Rat)*gmm cx cy r X:=(aE8 (Rne T) _).symm;rw[e];exact((oV (x:=(r:Rat)) (r:=(r:Rat)) (by rw[fZ (by grind)];exact R9)).mul bX).mono (by grind)
theorem bF8{X:Th}(hX:X∈hs)(iX:gV S X=true)(kX:pG X=true){u:Nat×Nat}{Z:Cp}(hA:AtF S hs n L s κ X.x X.y 0 u Z):∃(q:Nat×Nat)(Q:Cp),IsZ q.1 q.2 Q/\Nm (Q-C9 2*mX cx cy r (S:=S) hs s κ C X) (130000000*eps*EX r hs L n X)/\Nm Q (1200000*EX r hs L n X)/\
  ∀(R:Type)(K:KNN R),(gJ R (fI X.x) (fI X.y) (fI cx) (fI cy) λd1 d2=>reH R (fI X.s) (fI X.t) λh1 h2=>xJ dV h1 h2 [(d1,d2),(u.1,u.2)] λq1 q2=>eQ R q1 q2 4611686018427387904 K)=K q.1 q.2:=by
 have ep:=bI;have et:=bR;obtain⟨R1,R2⟩:=Rq T;obtain⟨M0,M1,fM⟩:=tI T;obtain⟨_,m0,_,fm⟩:=sO T hX;have m1:=aZo T hX;obtain⟨E0,E1,fE⟩:=aQw T hX;obtain⟨d1,d2,iD,nD,hD⟩:=aUc T hX iX;obtain⟨k2,q0,qF⟩:X.kind=2/\nuH X=0/\Fx X (C X)=C X:=by
  rcases rE T hX iX with ⟨_,h⟩|⟨h,_⟩;· exact h
  ·rw[kX]at h;cases h
 obtain⟨hc,iC⟩:=aDj (T.D X hX) k2;have t1:sW r 0=1:=by unfold sW;rw[Rat.pow_zero,Rat.mul_one];rfl
 have w1:WN 0<=204/100:=by unfold WN qB;decide +kernel
 have W1:=(sO T hX).1;have nC:Nm (C X) (600*(r:Rat)*mT L n X):=by
  have F:=aQx T hX iX;rw[qF,show pH r X=1 by unfold pH;rw[q0,Rat.pow_zero,Rat.mul_one];rfl]at F;refine F.mono ?_;have a:600*mT L n X/(s X).W<=600*mT L n X:=aHa (by grind) (by have:=dI W1 (show 0<=600*mT L n X by grind);grind);have:=dI a (show 0<=(r:Rat) by grind);rw[Rat.div_def,show((1:Rat))⁻¹=1 by decide +kernel];grind
 have wM:=cG w1 M0;have nZ:Nm Z (1229*MH hs L n):=hA.most.mono (by rw[t1];grind);have nZd:Nm (Z-lsm (dP r κ s (plP cx cy r X.x X.y) 0) (qV S hs)) (136100*eps*MH hs L n):=hA.near.mono (by rw[t1];have:=dI wM (bN ep);have:=bU (bN ep) M0;grind);have RR1:=aC R1 R1 (by decide) (show 0<=(r:Rat) by grind);have RR2:=aC R2 R2 (show 0<=(r:Rat) by grind) (by decide);have eρ:600*(r:Rat)*mT L n X*(5075/10000*(r:Rat))=6090/20*((r:Rat)*(r:Rat)*mT L n X):=by grind
 have RRm0:=bU (show 0<=(r:Rat)*(r:Rat) by grind) m0;have RRm1:=aC RR2 (cR m1 M1) m0 (by decide +kernel);obtain⟨p1,p2,P1,i1,e1,h1⟩:=mY iC iD nC nD (by rw[eρ,bZ];grind) (tY (by grind) fm) (.inr (by have:=cY (show(-400:Int)<=-20 by decide);rw[aPt]at this;grind));rw[eρ]at e1;have n1:Nm P1 (305*((r:Rat)*(r:Rat)*mT L n X)):=(e1.near (nC.mul nD)).mono (by rw[eρ];have:=cG et RRm0;grind);have eE:305*((r:Rat)*(r:Rat)*mT L n X)*(1229*MH hs L n)=374845*EX r hs L n X:=by unfold EX;grind
 obtain⟨p3,p4,P2,i2,e2,h2⟩:=mY i1 hA.iZ n1 nZ (by rw[eE,bZ];grind) (by rw[show 305*((r:Rat)*(r:Rat)*mT L n X)=305*((r:Rat)*(r:Rat))*mT L n X by grind];exact tY (by grind) fm) (tY (by grind) fM);rw[eE]at e2;have n2:Nm P2 (375000*EX r hs L n X):=(e2.near (n1.mul nZ)).mono (by rw[eE];have:=cG et E0;grind);have nCD:=nC.mul nD;rw[eρ]at nCD;have k:=bB7 e2 e1 nZ nCD nZd;have k':Nm (P2-mX cx cy r (S:=S) hs s κ C X) (64000000*eps*EX r hs L n X):=by
  unfold mX;rw[kX,T7];refine k.mono ?_;have v1:eps*(6090/20*((r:Rat)*(r:Rat)*mT L n X))*(1229*MH hs L n)=6090/20*1229*(eps*EX r hs L n X):=by unfold EX;grind
  have v2:6090/20*((r:Rat)*(r:Rat)*mT L n X)*(136100*eps*MH hs L n)=6090/20*136100*(eps*EX r hs L n X):=by unfold EX;grind
  rw[v1,v2];have:=bU (bN ep) E0;clear k e1 e2 n1 n2 nC nD nZ nZd nCD h1 h2;grind
 obtain⟨q1,q2,Q,iQ,dQ,nQ,hQ⟩:=aHz i2 n2 k' (by decide +kernel) (by decide +kernel) (by decide +kernel) E0 fE E1;refine⟨(q1,q2),Q,iQ,dQ,nQ,λR K=>?_⟩;rw[hD];show eQ R (fI X.s) (fI X.t) 4594902181429758083 (λh1 h2=>dV R h1 h2 d1 d2 λa b=>dV R a b u.1 u.2 λq1 q2=>eQ R q1 q2 4611686018427387904 K)=_;rw[hc,h1,h2,hQ]
end
end Go.Vx
